/- What functions of the program come to, by the machine. -/
import Derived.Test.YtlmiemdojgahaaaGreatCL7
import Derived.Test.YtlmiemdojgahaaaGreatCL4
import Derived.Test.YtlmiemdojgahaaaGreatCL6
set_option linter.unusedSimpArgs false
set_option linter.unusedVariables false
namespace Go.TM.Ft
open Go Go.TM Go.Proofs
set_option maxRecDepth 20000
def onM (l:List Step) (c:Chart) (i:Nat):Nat:=cntM c.acts 1 (kids4M i 0 l) 0
def ovM (l:List Step) (c:Chart) (i:Nat):Nat:=cntM c.acts 2 (kids4M i 0 l) 0
theorem wrong_iff {l : List Step} {c : Chart} {i : Nat} : wrong9 l c i = false ↔
    (szAt c.acts i ≠ 1 ∧ onM l c i + ovM l c i = 0 ∧ szAt c.dues i = 0) ∨
    (szAt c.acts i = 1 ∧
      (((kindOf l i = 1 ∨ kindOf l i = 3) ∧ onM l c i = 1 ∧ ovM l c i = 0 ∧ szAt c.dues i = 0) ∨
       (kindOf l i = 4 ∧ onM l c i ≠ 0 ∧ onM l c i + ovM l c i = (kids4M i 0 l).length ∧ szAt c.dues i = 0) ∨
       (kindOf l i = 8 ∧ onM l c i = 1 ∧ ovM l c i = 0 ∧ (szAt c.dues i ≠ 0 ↔ szAt c.acts (szAt (kids4M i 0 l) 0) = 1)) ∨
       (kindOf l i = 6 ∧ szAt c.dues i ≠ 0) ∨
       (kindOf l i ≠ 1 ∧ kindOf l i ≠ 3 ∧ kindOf l i ≠ 4 ∧ kindOf l i ≠ 8 ∧ kindOf l i ≠ 6 ∧ kindOf l i ≠ 7 ∧ szAt c.dues i = 0))) := by
  unfold wrong9 wrongK
  rw [show cntM c.acts 1 (kids4M i 0 l) 0 = onM l c i from rfl, show cntM c.acts 2 (kids4M i 0 l) 0 = ovM l c i from rfl]
  generalize onM l c i = on
  generalize ovM l c i = ov
  generalize kindOf l i = k
  generalize szAt c.acts i = ac
  generalize szAt c.dues i = du
  generalize hks : kids4M i 0 l = ks
  generalize szAt c.acts (szAt ks 0) = fa
  by_cases h1 : ac = 1
  · by_cases k1 : k = 1
    · simp [h1, k1, notB, eqI, orB, ltI]; omega
    by_cases k3 : k = 3
    · simp [h1, k3, notB, eqI, orB, ltI]; omega
    by_cases k4 : k = 4
    · simp [h1, k4, notB, eqI, orB, ltI]; omega
    by_cases k8 : k = 8
    · by_cases d0 : du = 0 <;> by_cases f0 : fa = 1 <;> simp [h1, k8, notB, eqI, orB, ltI, eqB, d0, f0] <;> first | omega | (intro _ _; rw [show (du == 0) = false by simp [d0], show (fa == 1) = false by simp [f0]])
    by_cases k6 : k = 6
    · simp [h1, k6, notB, eqI, orB]
    by_cases k7 : k = 7
    · simp [h1, k7, notB, eqI, orB]
    · simp [h1, k1, k3, k4, k8, k6, k7, notB, eqI, orB]
  · simp [h1, notB, eqI, orB, ltI]; omega
theorem fits_iff {l : List Step} {c : Chart} {i : Nat} (hk : kidsM i 0 l = kids4M i 0 l) : fitsM l c i = true ↔
    ¬ (szAt c.acts i = 2 ∧ (i = 0 ∨ kindOf l (parOf l i) ≠ 4)) ∧
    ((szAt c.acts i ≠ 1 ∧ onM l c i + ovM l c i = 0 ∧ szAt c.dues i = 0) ∨
     (szAt c.acts i = 1 ∧
      (((kindOf l i = 1 ∨ kindOf l i = 3) ∧ onM l c i = 1 ∧ szAt c.dues i = 0) ∨
       (kindOf l i = 4 ∧ onM l c i ≠ 0 ∧ onM l c i + ovM l c i = (kids4M i 0 l).length ∧ szAt c.dues i = 0) ∨
       (kindOf l i = 8 ∧ onM l c i = 1 ∧ (szAt c.dues i ≠ 0 ↔ szAt c.acts (szAt (kids4M i 0 l) 0) = 1)) ∨
       (kindOf l i = 6 ∧ szAt c.dues i ≠ 0) ∨
       (kindOf l i ≠ 1 ∧ kindOf l i ≠ 3 ∧ kindOf l i ≠ 4 ∧ kindOf l i ≠ 8 ∧ kindOf l i ≠ 6 ∧ kindOf l i ≠ 7 ∧ szAt c.dues i = 0)))) := by
  unfold fitsM fitsK
  rw [hk]
  rw [show cntM c.acts 1 (kids4M i 0 l) 0 = onM l c i from rfl, show cntM c.acts 2 (kids4M i 0 l) 0 = ovM l c i from rfl]
  generalize onM l c i = on
  generalize ovM l c i = ov
  generalize kindOf l i = k
  generalize szAt c.acts i = ac
  generalize szAt c.dues i = du
  generalize hks : kids4M i 0 l = ks
  generalize szAt c.acts (szAt ks 0) = fa
  generalize kindOf l (parOf l i) = pk
  have hb : andB (eqI ac 2) (orB (eqI i 0) (notB (eqI pk 4))) = true ↔ ac = 2 ∧ (i = 0 ∨ pk ≠ 4) := by
    simp [andB, orB, notB, eqI]
  by_cases q : ac = 2 ∧ (i = 0 ∨ pk ≠ 4)
  · rw [if_pos (hb.2 q)]
    simp [q]
  · rw [if_neg (fun h => q (hb.1 h))]
    simp only [q, not_false_eq_true, true_and]
    by_cases h1 : ac = 1
    · by_cases k1 : k = 1
      · by_cases o1 : on = 1 <;> by_cases d0 : du = 0 <;> simp [h1, k1, notB, eqI, orB, eqB, o1, d0] <;> omega
      by_cases k3 : k = 3
      · by_cases o1 : on = 1 <;> by_cases d0 : du = 0 <;> simp [h1, k3, notB, eqI, orB, eqB, o1, d0] <;> omega
      by_cases k4 : k = 4
      · by_cases o1 : on = 0 <;> by_cases o2 : on + ov = ks.length <;> by_cases d0 : du = 0 <;> simp [h1, k4, notB, eqI, orB, eqB, o1, o2, d0] <;> omega
      by_cases k8 : k = 8
      · by_cases o1 : on = 1 <;> by_cases d0 : du = 0 <;> by_cases f0 : fa = 1 <;> simp [h1, k8, notB, eqI, orB, eqB, o1, d0, f0] <;> first | omega | (rw [show (du == 0) = false by simp [d0], show (fa == 1) = false by simp [f0]])
      by_cases k6 : k = 6
      · by_cases d0 : du = 0 <;> simp [h1, k6, notB, eqI, orB, eqB, d0]
      by_cases k7 : k = 7
      · simp [h1, k7, notB, eqI, orB]
      · by_cases d0 : du = 0 <;> simp [h1, k1, k3, k4, k8, k6, k7, notB, eqI, orB, eqB, d0]
    · by_cases d0 : du = 0 <;> simp [h1, notB, eqI, andB, d0] <;> omega
theorem wrongs_iff (l:List Step) (c:Chart):∀ (f i:Nat),wrongs9 l c f i=false ↔ ∀ k,i≤k→k < i+f→wrong9 l c k=false
 | 0,i=>by simp [wrongs9]; intro k h1 h2; omega
 | f+1,i=>by
  unfold wrongs9
  have ih:=wrongs_iff l c f (i+1)
  cases h:wrong9 l c i
  ·simp only [Bool.false_eq_true,if_false]
   rw [ih]
   constructor
   ·intro hh k h1 h2
    rcases Nat.lt_or_ge i k with h' | h'
    ·exact hh k h' (by omega)
    ·have e:k=i:=by omega
     subst e; exact h
   ·intro hh k h1 h2; exact hh k (by omega) (by omega)
  ·simp only [if_true]
   constructor
   ·intro h'; simp at h'
   ·intro hh; have:=hh i (Nat.le_refl _) (by omega); rw [h] at this; simp at this
theorem allFit_iff (l:List Step) (c:Chart):∀ (f i:Nat),allFit l c f i=true ↔ ∀ k,i≤k→k < i+f→fitsM l c k=true
 | 0,i=>by simp [allFit]; intro k h1 h2; omega
 | f+1,i=>by
  unfold allFit
  have ih:=allFit_iff l c f (i+1)
  cases h:fitsM l c i
  ·simp only [Bool.false_eq_true,if_false]
   constructor
   ·intro h'; simp at h'
   ·intro hh; have:=hh i (Nat.le_refl _) (by omega); rw [h] at this; simp at this
  ·simp only [if_true]
   rw [ih]
   constructor
   ·intro hh k h1 h2
    rcases Nat.lt_or_ge i k with h' | h'
    ·exact hh k h' (by omega)
    ·have e:k=i:=by omega
     subst e; exact h
   ·intro hh k h1 h2; exact hh k (by omega) (by omega)
theorem proc_kids {l:List Step} (ok:ProcOk l) (i:Nat):kidsM i 0 l=kids4M i 0 l:=kids_same l 0 fun _ s hs=>by
 have:=ok.par0 (by have:=ok.pos; omega)
 have h0:0 < l.length:=by have:=ok.pos; omega
 have e:l[0]?=some l[0]:=by simp
 rw [e] at hs
 have:=Option.some.inj hs
 subst this
 omega
theorem no_kids {l:List Step} (ok:ProcOk l) {i:Nat} (hi:i < l.length) (h1:kindOf l i≠1) (h3:kindOf l i≠3) (h4:kindOf l i≠4) (h8:kindOf l i≠8):kids4M i 0 l=[]:=by
 have hc:=ok.cond i hi
 unfold condFaultM at hc
 have hcode:condCode l i=0:=by
  split at hc
  ·exact hc
  ·rename_i c
   simp [orB,notB,eqI] at c
   exact c.1
 have:=(first2_zero hcode).1
 have hb:kidB (kindOf l i)=(0,0):=by
  unfold kidB
  simp [eqI,h1,h3,h4,h8]
 rw [hb] at this
 have hn:notB (inR (kidsM i 0 l).length 0 0)=false:=by
  cases h:notB (inR (kidsM i 0 l).length 0 0)
  ·rfl
  ·rw [h] at this; simp at this
 rw [proc_kids ok] at hn
 simp [notB,inR,andB,leI] at hn
 exact List.length_eq_zero_iff.1 (by simpa using hn)
theorem fit_wrong {l:List Step} (ok:ProcOk l) {c:Chart} (h0:szAt c.acts 0=1):allFit l c l.length 0=true ↔ wrongs9 l c l.length 0=false:=by
 rw [allFit_iff,wrongs_iff]
 constructor
 ·intro hf k _ hk
  have hk:k < l.length:=by omega
  obtain ⟨_,h2⟩:=(fits_iff (proc_kids ok k)).1 (hf k (Nat.zero_le _) (by omega))
  have hov:kindOf l k≠4→ovM l c k=0:=fun hk4=>by
   rcases Nat.eq_zero_or_pos (ovM l c k) with h | h
   ·exact h
   ·exfalso
    obtain ⟨x,hx,ha⟩:=(cnt_pos _ _ _ _).1 h
    obtain ⟨a,hal,rfl,hp⟩:=kids4_iff.1 hx
    rw [Nat.zero_add] at ha
    have ha0:a≠0:=fun h=>by subst h; simp at ha; rw [h0] at ha; omega
    obtain ⟨h1,_⟩:=(fits_iff (proc_kids ok a)).1 (hf a (Nat.zero_le _) (by omega))
    have hpa:parOf l a=k:=by simp [parOf,hal,hp]
    exact h1 ⟨ha,.inr (by rw [hpa]; exact hk4)⟩
  rw [wrong_iff]
  rcases h2 with h | ⟨ha,h⟩
  ·exact .inl h
  ·right
   refine ⟨ha,?_⟩
   rcases h with ⟨hk1,h⟩ | h | ⟨hk8,h⟩ | h | h
   ·exact .inl ⟨hk1,h.1,hov (by omega),h.2⟩
   ·exact .inr (.inl h)
   ·exact .inr (.inr (.inl ⟨hk8,h.1,hov (by omega),h.2⟩))
   ·exact .inr (.inr (.inr (.inl h)))
   ·exact .inr (.inr (.inr (.inr h)))
 ·intro hw k _ hk
  have hk:k < l.length:=by omega
  have h2:=wrong_iff.1 (hw k (Nat.zero_le _) (by omega))
  rw [fits_iff (proc_kids ok k)]
  refine ⟨fun ⟨ha,hor⟩=>?_,?_⟩
  ·have hk0:k≠0:=fun h=>by subst h; simp at ha; rw [h0] at ha; omega
   obtain ⟨a,hp,hak⟩:=ok.par k hk (by omega)
   have hal:a < l.length:=by omega
   have hmem:(k:Int)∈kids4M a 0 l:=kids4_iff.2 ⟨k,hk,by simp,hp⟩
   have hpa:parOf l k=a:=by simp [parOf,hk,hp]
   have hov:0 < ovM l c a:=(cnt_pos _ _ _ _).2 ⟨k,hmem,ha⟩
   have hw2:=wrong_iff.1 (hw a (Nat.zero_le _) (by omega))
   rw [hpa] at hor
   have hnk:∀ h:kids4M a 0 l=[],False:=fun h=>by rw [h] at hmem; simp at hmem
   rcases hw2 with h | ⟨_,⟨_,h⟩ | h | ⟨_,h⟩ | h | h⟩
   ·omega
   ·omega
   ·rcases hor with h' | h'
    ·omega
    ·exact h' h.1
   ·omega
   ·exact hnk (no_kids ok hal (by omega) (by omega) (by omega) (by omega))
   ·exact hnk (no_kids ok hal h.1 h.2.1 h.2.2.1 h.2.2.2.1)
  ·rcases h2 with h | ⟨ha,h⟩
   ·exact .inl h
   ·right
    refine ⟨ha,?_⟩
    rcases h with ⟨hk1,h⟩ | h | ⟨hk8,h⟩ | h | h
    ·exact .inl ⟨hk1,h.1,h.2.2⟩
    ·exact .inr (.inl h)
    ·exact .inr (.inr (.inl ⟨hk8,h.1,h.2.2⟩))
    ·exact .inr (.inr (.inr (.inl h)))
    ·exact .inr (.inr (.inr (.inr h)))
theorem chart_same (l:List Step) (c:Chart):fault9 l c=chartM l c:=by
 have hq:¬ (notB (eqI (0:Int) 0)=true):=by simp [notB,eqI]
 have hff:¬ (false=true):=by simp
 unfold fault9 chartM chartA
 rw [fault_same,vars_same]
 by_cases h1:procM l=0
 ·have ok:=proc_ok h1
  rw [h1,if_neg hq]
  cases q2:orB (notB (inR c.status 1 3)) (notB (inR c.now 0 1000000))
  ·rw [if_neg hff]
   by_cases h3:varsM c.vars=0
   ·rw [h3,if_neg hq]
    cases q4:orB (notB (eqI c.acts.length l.length)) (notB (eqI c.dues.length l.length))
    ·have hl:c.acts.length=l.length∧c.dues.length=l.length:=by
      simp [orB,notB,eqI] at q4; omega
     have e0:first2 0 (first2 (ci false 3) (first2 0 (ci false 2)))=0:=by rfl
     rw [if_neg hff,rng_same hl.1 hl.2,some_same hl.1 hl.2,e0,if_neg hq]
     cases orB (notB (smS 2 c.acts)) (notB (smS (c.now+99) c.dues))
     ·rw [if_neg hff,if_neg hff]
      unfold ordM
      by_cases h5:c.status=1
      ·have hs:¬ (notB (eqI c.status 1)=true):=by simp [notB,eqI,h5]
       rw [if_neg hs,if_neg hs]
       by_cases h6:szAt c.acts 0=1
       ·have hs2:¬ (notB (eqI (szAt c.acts 0) 1)=true):=by simp [notB,eqI,h6]
        have hs3:eqI (szAt c.acts 0) 1=true:=by simp [eqI,h6]
        rw [if_neg hs2,hs3]
        have hfw:=fit_wrong ok h6
        cases q6:wrongs9 l c l.length 0
        ·rw [hfw.2 q6]; rfl
        ·cases q7:allFit l c l.length 0
         ·rfl
         ·rw [hfw.1 q7] at q6; simp at q6
       ·have hs2:notB (eqI (szAt c.acts 0) 1)=true:=by simp [notB,eqI,h6]
        have:eqI (szAt c.acts 0) 1=false:=by simp [eqI,h6]
        rw [if_pos hs2,this]
        cases allFit l c l.length 0 <;> rfl
      ·have hs:notB (eqI c.status 1)=true:=by simp [notB,eqI,h5]
       rw [if_pos hs,if_pos hs]
       cases andB (smS 0 c.acts) (smS 0 c.dues) <;> rfl
     ·rfl
    ·rfl
   ·have e1:first2 0 (first2 (ci false 3) (first2 (varsM c.vars) (ci (orB (notB (eqI c.acts.length l.length)) (notB (eqI c.dues.length l.length))) 2)))=varsM c.vars:=by
     have:eqI (varsM c.vars) 0=false:=by simp [eqI,h3]
     simp [first2,ci,eqI_self,this]
    have hs:notB (eqI (varsM c.vars) 0)=true:=by simp [notB,eqI,h3]
    rw [e1,if_pos hs,if_pos hs]
  ·have e1:first2 0 (first2 (ci true 3) (first2 (varsM c.vars) (ci (orB (notB (eqI c.acts.length l.length)) (notB (eqI c.dues.length l.length))) 2)))=3:=by rfl
   rw [e1]; rfl
 ·have e1:∀ b,first2 (procM l) b=procM l:=fun b=>by
   have:eqI (procM l) 0=false:=by simp [eqI,h1]
   simp [first2,this]
  have hs:notB (eqI (procM l) 0)=true:=by simp [notB,eqI,h1]
  rw [e1,if_pos hs,if_pos hs]
end Go.TM.Ft
namespace Go.TM.Ft
open Go Go.TM Go.Proofs
set_option maxRecDepth 20000
attribute [local congr] gif_cg
attribute [local simp] footOf noClash clash upsets setsHit setHits layHits layMeets setsMeet evFeet
theorem inst_same (e:Engine) (x:Inst):inst4M e x=instM e x:=by
 unfold inst4M instM instCode
 rw [chart_same]
 cases inR x.proc 0 ((e.procs.length:Int) - 1)
 ·rfl
 ·by_cases h:chartM (stepsOf e x) x.chart=0
  ·rw [h]
   cases eqI x.chart.now e.now <;> rfl
  ·have:eqI (chartM (stepsOf e x) x.chart) 0=false:=by simp [eqI,h]
   simp [notB,first2,this]
theorem insts_same (e:Engine):∀ l,insts4M e l=instsM e l
 | []=>rfl
 | x::l=>by
  unfold insts4M instsM
  rw [inst_same,insts_same e l]
theorem procs_same:∀ l,procs4M l=procsM l
 | []=>rfl
 | x::l=>by
  unfold procs4M procsM
  rw [fault_same,procs_same l]
theorem procsF_same (l:List (List Step)):procs4F l=procsF l:=by
 unfold procs4F procsF
 rw [procs_same]
 by_cases h:1≤l.length∧l.length≤3
 ·rw [if_neg (by simp [orB,ltI]; omega),if_neg (by simp [notB,inR,andB,leI]; omega)]
 ·rw [if_pos (by simp [orB,ltI]; omega),if_pos (by simp [notB,inR,andB,leI]; omega)]
theorem eng_same (e:Engine):eng4M e=engM e:=by
 unfold eng4M engM engA
 rw [insts_same,procsF_same]
 cases q1:ltI 6 e.insts.length
 ·by_cases q2:procsF e.procs=0
  ·have q3:inR e.procs.length 1 3=true:=by
    unfold procsF at q2
    split at q2
    ·simp at q2
    ·rename_i c; simpa [notB] using c
   rw [q2,q3]
   cases inR e.now 0 1000000 <;> rfl
  ·have e0:eqI (procsF e.procs) 0=false:=by simp [eqI,q2]
   have e1:first2 (procsF e.procs) (ci (notB (inR e.now 0 1000000)) 3)=procsF e.procs:=by simp [first2,e0]
   rw [e1,e0]
   cases q3:inR e.procs.length 1 3
   ·unfold procsF; rw [q3]; rfl
   ·rfl
 ·cases inR e.procs.length 1 3 <;> rfl
theorem ahead_cmp (a b:Claim):leI 0 (cmpC a b)=notB (aheadM a b):=by
 unfold cmpC aheadM cmpI first2
 rcases Int.lt_trichotomy a.inst b.inst with h | h | h
 ·simp [ltI,h,eqI,leI,notB,orB]
 ·rcases Int.lt_trichotomy a.step b.step with h2 | h2 | h2
  ·simp [ltI,h,h2,eqI,leI,notB,orB,andB]
  ·simp [ltI,h,h2,eqI,leI,notB,orB,andB]
  ·have:¬ a.step < b.step:=by omega
   simp [ltI,h,h2,this,eqI,leI,notB,orB,andB]
 ·have h1:¬ a.inst < b.inst:=by omega
  have h2:¬ a.inst=b.inst:=by omega
  simp [ltI,h,h1,h2,eqI,leI,notB,orB,andB]
set_option maxHeartbeats 4000000 in
theorem lp21 (d : Desk) (hf : FitE d.eng) (h0 : engM d.eng = 0) (hcl : d.claims.length ≤ 60) : ∀ (rest : List Claim) (i : Nat), d.claims.drop i = rest →
    evLoop E (orc E) (151 : Nat) (rest.length + 1) (loopOf Tryz.f151 0) ⟨76, [(0, .ipt (dT d)), (4, vI i)], [], 2⟩ =
    (if eqI (claimsM d i rest) 0 = true then some (.exit 0, ⟨76, [(0, .ipt (dT d)), (4, vI (i + rest.length : Nat)), (25, vB false)], [], 2⟩)
     else some (.ret, ⟨76, [(2, vI (claimsM d i rest))], [], 2⟩))
  | [], i, h => by
    have hge : d.claims.length ≤ i := by simpa using h
    have hlt : ltI (i : Int) (d.claims.length : Int) = false := ltI_f (by omega)
    rw [loop_eq]
    simp +contextual -dsimp [Tryz.f151, hlt, claimsM, eqI_self]
  | x :: rest, i, h => by
    obtain ⟨hi, hc, hr⟩ := drop_cons h
    obtain ⟨n1, n2, n3⟩ := engM_zero h0
    have hlt : ltI (i : Int) (d.claims.length : Int) = true := ltI_t (by omega)
    have hw : IntKind.i64.wrap ((i : Int) + 1) = ((i + 1 : Nat) : Int) := by rw [wrapI] <;> omega
    have hwi : IntKind.i64.wrap ((d.eng.insts.length : Int) - 1) = (d.eng.insts.length : Int) - 1 := by rw [wrapI] <;> omega
    have he : i + 1 + rest.length = i + (rest.length + 1) := by omega
    have out : ∀ k : Int, claimM d i x = k → eqI k 0 = false → claimsM d i (x :: rest) = k := fun k h1 h2 => by simp [claimsM, h1, h2]
    cases q1 : inR x.inst 0 ((d.eng.insts.length : Int) - 1)
    · have h3 : claimM d i x = 3 := by simp [claimM, q1, notB, orB]
      have hm := out 3 h3 rfl
      have h30 : eqI (3 : Int) 0 = false := rfl
      rw [hm, h30, if_neg (by simp)]
      refine evLoop_out ?_ (by simp)
      simp (maxSteps := 1000000) +contextual -dsimp [Tryz.f151, hlt, hi, hc, hwi, f_l1In, q1, List.set]
    cases q2 : inR x.user 1 9
    · have h3 : claimM d i x = 3 := by simp [claimM, q1, q2, notB, orB]
      have hm := out 3 h3 rfl
      have h30 : eqI (3 : Int) 0 = false := rfl
      rw [hm, h30, if_neg (by simp)]
      refine evLoop_out ?_ (by simp)
      simp (maxSteps := 1000000) +contextual -dsimp [Tryz.f151, hlt, hi, hc, hwi, f_l1In, f_l12User, q1, q2, List.set]
    obtain ⟨b, hb, hbl⟩ : ∃ b : Nat, x.inst = b ∧ b < d.eng.insts.length := by
      simp [inR, andB, leI] at q1
      obtain ⟨k, hk⟩ := Int.eq_ofNat_of_zero_le q1.1
      exact ⟨k, hk, by omega⟩
    obtain ⟨a, ha, hx, e2, ok, hlen⟩ := (n3 (d.eng.insts[b]) (List.getElem_mem _)).at_
    have g1 := f_l12Open d.eng [.sl 150 (d.claims.map kT)] b hbl a hx ha (by have := ok.le; omega) hlen x.step
    rw [← hb] at g1
    have g2 := f_l12Ahead (clAt d.claims (i - 1)) x
    cases q3 : isOpenM d.eng x.inst x.step
    · have h3 : claimM d i x = 4 := by simp [claimM, q1, q2, q3, notB, orB]
      have hm := out 4 h3 rfl
      have h30 : eqI (4 : Int) 0 = false := rfl
      rw [hm, h30, if_neg (by simp)]
      refine evLoop_out ?_ (by simp)
      simp (maxSteps := 1000000) +contextual -dsimp [Tryz.f151, hlt, hi, hc, hwi, f_l1In, f_l12User, g1, q1, q2, q3, List.set]
    rcases Nat.eq_zero_or_pos i with hi0 | hi0
    · have hl0 : ltI 0 (i : Int) = false := ltI_f (by omega)
      have h3 : claimM d i x = 0 := by simp [claimM, q1, q2, q3, hl0, notB, orB, andB]
      have ih := lp21 d hf h0 hcl rest (i + 1) hr
      rw [he] at ih
      have hm : claimsM d i (x :: rest) = claimsM d (i + 1) rest := by simp [claimsM, h3, eqI_self]
      rw [hm]
      refine evLoop_next ?_ (by simpa only [List.length_cons] using ih)
      simp (maxSteps := 1000000) +contextual -dsimp [Tryz.f151, hlt, hi, hc, hw, hwi, f_l1In, f_l12User, g1, q1, q2, q3, hl0, List.set]
    · have hl0 : ltI 0 (i : Int) = true := ltI_t (by omega)
      have hi1 : i - 1 < d.claims.length := by omega
      have hw1 : IntKind.i64.wrap ((i : Int) - 1) = ((i - 1 : Nat) : Int) := by rw [wrapI] <;> omega
      have hcl1 : clAt d.claims (i - 1) = d.claims[i - 1] := by simp [clAt, hi1]
      rw [hcl1] at g2
      cases q4 : aheadM (d.claims[i - 1]) x
      · have h3 : claimM d i x = 1 := by simp [claimM, q1, q2, q3, hl0, hcl1, ahead_cmp, q4, notB, orB, andB]
        have hm := out 1 h3 rfl
        have h30 : eqI (1 : Int) 0 = false := rfl
        rw [hm, h30, if_neg (by simp)]
        refine evLoop_out ?_ (by simp)
        simp (maxSteps := 1000000) +contextual -dsimp [Tryz.f151, hlt, hi, hc, hwi, f_l1In, f_l12User, g1, g2, q1, q2, q3, q4, hl0, hi1, hw1, List.set]
      · have h3 : claimM d i x = 0 := by simp [claimM, q1, q2, q3, hl0, hcl1, ahead_cmp, q4, notB, orB, andB]
        have ih := lp21 d hf h0 hcl rest (i + 1) hr
        rw [he] at ih
        have hm : claimsM d i (x :: rest) = claimsM d (i + 1) rest := by simp [claimsM, h3, eqI_self]
        rw [hm]
        refine evLoop_next ?_ (by simpa only [List.length_cons] using ih)
        simp (maxSteps := 1000000) +contextual -dsimp [Tryz.f151, hlt, hi, hc, hw, hwi, f_l1In, f_l12User, g1, g2, q1, q2, q3, q4, hl0, hi1, hw1, List.set]
theorem f_l12Fault (d:Desk) (hf:FitE d.eng) (hc:d.claims.length < 2 ^ 62):fo 151 [A (.ipt (dT d))]=some (R (vI (deskM d))):=by
 have g1:=f_l11Fault d.eng [.sl 150 (d.claims.map kT)] hf
 rw [eng_same] at g1
 unfold deskM deskA
 refine orc_151 (d.claims.length+1) ?_
 cases q1:eqI (engM d.eng) 0
 ·simp (maxSteps:=1000000) +contextual -dsimp [Tryz.f151,g1,q1,first2]
 ·have e0:engM d.eng=0:=by simpa [eqI] using q1
  cases q2:ltI 60 d.claims.length
  ·have hlp:=lp21 d hf e0 (by simp [ltI] at q2; omega) d.claims 0 rfl
   simp -dsimp [Tryz.f151] at hlp
   cases q4:eqI (claimsM d 0 d.claims) 0
   ·rw [q4] at hlp
    simp (maxSteps:=1000000) +contextual -dsimp [Tryz.f151,g1,e0,q2,eqI_self,first2,ci,hlp]
   ·rw [q4] at hlp
    have e1:claimsM d 0 d.claims=0:=by simpa [eqI] using q4
    simp (maxSteps:=1000000) +contextual -dsimp [Tryz.f151,g1,e0,q2,e1,eqI_self,first2,ci,hlp]
  ·have h20:eqI (2:Int) 0=false:=rfl
   simp (maxSteps:=1000000) +contextual -dsimp [Tryz.f151,g1,e0,q2,eqI_self,first2,ci,h20]
end Go.TM.Ft
namespace Go.TM.Ft
open Go Go.TM Go.Proofs
set_option maxRecDepth 20000
attribute [local congr] gif_cg
attribute [local simp] footOf noClash clash upsets setsHit setHits layHits layMeets setsMeet evFeet
def foldS {α σ ε:Type} (g:Nat→σ→α→ε ⊕ σ):Nat→σ→List α→ε ⊕ σ
 | _,s,[]=>.inr s
 | i,s,x::r=>match g i s x with | .inr s'=>foldS g (i+1) s' r | .inl e=>.inl e
def Goes {σ ε:Type} (id:Nat) (Z:σ→St) (X:ε→St→Prop) (r:Option (Ex × St)):ε ⊕ σ→Prop
 | .inr s=>r=some (.exit id,Z s)
 | .inl e=>∃ st,r=some (.ret,st)∧X e st
theorem loop_list {α σ ε:Type} {f id:Nat} {code:Code} (all:List α) (I:Nat→σ→Prop) (S:Nat→σ→St) (g:Nat→σ→α→ε ⊕ σ) (Z:σ→St) (X:ε→St→Prop)
  (hz:∀ k s,I all.length s→evCode E (orc E) f (evLoop E (orc E) f k) code (S all.length s)=some (.exit id,Z s))
  (hs:∀ k i s (h:i < all.length),I i s→(∀ s',g i s all[i]=.inr s'→evCode E (orc E) f (evLoop E (orc E) f k) code (S i s)=some (.normal,S (i+1) s')∧I (i+1) s')∧
   (∀ e,g i s all[i]=.inl e→∃ st,evCode E (orc E) f (evLoop E (orc E) f k) code (S i s)=some (.ret,st)∧X e st)):
  ∀ (rest:List α) (i:Nat) (s:σ),all.drop i=rest→i≤all.length→I i s→
   Goes id Z X (evLoop E (orc E) f (rest.length+1) code (S i s)) (foldS g i s rest)
 | [],i,s,h,hi,hI=>by
  have e:i=all.length:=by have:=List.drop_eq_nil_iff.1 h; omega
  subst e
  exact evLoop_out (hz _ s hI) (by simp)
 | x::rest,i,s,h,hi,hI=>by
  obtain ⟨hi,hc,hr⟩:=drop_cons h
  obtain ⟨h1,h2⟩:=hs (rest.length+1) i s hi hI
  unfold foldS
  rw [hc] at h1 h2
  cases q:g i s x with
  | inr s'=>
   obtain ⟨g1,g2⟩:=h1 s' q
   have ih:=loop_list all I S g Z X hz hs rest (i+1) s' hr hi g2
   rw [← evLoop_next (E:=E) (call:=orc E) g1 rfl] at ih
   exact ih
  | inl e=>
   obtain ⟨st,g1,g2⟩:=h2 e q
   exact ⟨st,evLoop_out g1 (by simp),g2⟩
def foldI {α σ:Type} (g:Nat→σ→α→σ):Nat→σ→List α→σ
 | _,s,[]=>s
 | i,s,x::r=>foldI g (i+1) (g i s x) r
theorem foldS_I {α σ ε:Type} (g:Nat→σ→α→σ):∀ (l:List α) (i:Nat) (s:σ),foldS (ε:=ε) (fun i s x=>.inr (g i s x)) i s l=.inr (foldI g i s l)
 | [],_,_=>rfl
 | x::l,i,s=>by simp only [foldS,foldI]; exact foldS_I g l (i+1) (g i s x)
theorem loop_all {α σ:Type} {f id:Nat} {code:Code} (all:List α) (I:Nat→σ→Prop) (S:Nat→σ→St) (g:Nat→σ→α→σ) (Z:σ→St)
  (hz:∀ k s,I all.length s→evCode E (orc E) f (evLoop E (orc E) f k) code (S all.length s)=some (.exit id,Z s))
  (hs:∀ k i s (h:i < all.length),I i s→evCode E (orc E) f (evLoop E (orc E) f k) code (S i s)=some (.normal,S (i+1) (g i s all[i]))∧I (i+1) (g i s all[i])) (s0:σ) (h0:I 0 s0):
  evLoop E (orc E) f (all.length+1) code (S 0 s0)=some (.exit id,Z (foldI g 0 s0 all)):=by
 have:=loop_list (f:=f) (id:=id) (code:=code) (ε:=Empty) all I S (fun i s x=>.inr (g i s x)) Z (fun e _=>nomatch e) hz
  (fun k i s h hI=>⟨fun s' he=>by simp only [Sum.inr.injEq] at he; subst he; exact hs k i s h hI,fun e=>nomatch e⟩) all 0 s0 rfl (Nat.zero_le _) h0
 rw [foldS_I] at this
 exact this
theorem wrap1 {i n:Nat} (h:i < n) (hn:n < 2 ^ 62):IntKind.i64.wrap ((i:Int)+1)=((i+1:Nat):Int):=by rw [wrapI] <;> omega
theorem ltN_t {i n:Nat} (h:i < n):ltI (i:Int) (n:Int)=true:=ltI_t (by omega)
theorem ltN_f (n:Nat):ltI (n:Int) (n:Int)=false:=ltI_f (by omega)
theorem ci_01 (b:Bool):ci b 1=0∨ci b 1=1:=by cases b <;> simp [ci]
def rawM (k a b:Int):Int:=
 if eqI k 3=true then a+b else if eqI k 4=true then a - b else if eqI k 5=true then a*b else if eqI k 6=true then Int.tdiv a b
 else if eqI k 7=true then ci (ltI a b) 1 else if eqI k 8=true then ci (eqI a b) 1 else if eqI k 9=true then a*b else 1 - a
def nodeV (vars acc:List Int) (n:Node):Int:=
 if eqI n.kind 1=true then n.value else if eqI n.kind 2=true then szAt vars n.value else rawM n.kind (szAt acc n.left) (szAt acc n.right)
section
variable (P:Program) (t:TypeId) (x y:Operand)
theorem pr_mulX (k:IntKind) (a b:Int):pureRun P (do eqGuard .mul t x y (.int k a) (.int k b); binOp .mul t (.int k a) (.int k b))=some (.int k (k.wrap (a*b))):=by cases k <;> rfl
theorem pr_and00:pureRun P (do eqGuard .and t x y (.int .i64 0) (.int .i64 0); binOp .and t (.int .i64 0) (.int .i64 0))=some (.int .i64 0):=by rfl
theorem pr_and01:pureRun P (do eqGuard .and t x y (.int .i64 0) (.int .i64 1); binOp .and t (.int .i64 0) (.int .i64 1))=some (.int .i64 0):=by rfl
theorem pr_and10:pureRun P (do eqGuard .and t x y (.int .i64 1) (.int .i64 0); binOp .and t (.int .i64 1) (.int .i64 0))=some (.int .i64 0):=by rfl
theorem pr_and11:pureRun P (do eqGuard .and t x y (.int .i64 1) (.int .i64 1); binOp .and t (.int .i64 1) (.int .i64 1))=some (.int .i64 1):=by rfl
theorem pr_quoX (a b:Int) (h:b≠0):pureRun P (do eqGuard .quo t x y (.int .i64 a) (.int .i64 b); binOp .quo t (.int .i64 a) (.int .i64 b))=some (.int .i64 (IntKind.i64.wrap (Int.tdiv a b))):=by
 unfold binOp
 simp [eqGuard,h,Op.intDiv]
 rfl
end
end Go.TM.Ft
namespace Go.TM.Ft
open Go Go.TM Go.Proofs
set_option maxRecDepth 20000
attribute [local congr] gif_cg
attribute [local simp] footOf noClash clash upsets setsHit setHits layHits layMeets setsMeet evFeet
attribute [local simp] pr_mulX pr_and00 pr_and01 pr_and10 pr_and11
def kindN (l:List Node) (k:Int):Int:=match l[k.toNat]? with | some n=>n.kind | none=>0
structure ExprOk (l:List Node):Prop where
 pos:1≤l.length
 le:l.length≤16
 node:∀ (k:Nat) (n:Node),l[k]?=some n→nodeFaultM n (k:Nat)=0
 typ:∀ (k:Nat) (n:Node),l[k]?=some n→2 < n.kind→(partB (kindN l n.left)).2=(partB n.kind).1∧(n.kind≤9→(partB (kindN l n.right)).2=(partB n.kind).1)
theorem node_kinds {n:Node} {i:Int} (h:nodeFaultM n i=0):
  (n.kind=1∧0≤n.value∧n.value≤9999)∨(n.kind=2∧0≤n.value∧n.value≤3)∨(n.kind=10∧n.right=0∧0≤n.left∧n.left≤i - 1)∨
  (3≤n.kind∧n.kind≤9∧0≤n.left∧n.left≤i - 1∧0≤n.right∧n.right≤i - 1):=by
 unfold nodeFaultM at h
 by_cases h1:n.kind=1
 ·simp [h1,orB,eqI,first2,notB,inR,andB,leI] at h
  (repeat' split at h) <;> first | omega | simp at h
 by_cases h2:n.kind=2
 ·simp [h2,orB,eqI,first2,notB,inR,andB,leI] at h
  (repeat' split at h) <;> first | omega | simp at h
 by_cases h10:n.kind=10
 ·simp [h10,orB,eqI,first2,notB,inR,andB,leI] at h
  (repeat' split at h) <;> first | omega | simp at h
 by_cases h39:3≤n.kind∧n.kind≤9
 ·have e:inR n.kind 3 9=true:=by simp [inR,andB,leI]; exact h39
  simp only [e] at h
  simp [h1,h2,h10,orB,eqI,first2,notB,inR,andB,leI] at h
  (repeat' split at h) <;> first | omega | simp at h
 ·have e:inR n.kind 3 9=false:=by simp [inR,andB,leI]; omega
  simp [h1,h2,h10,e,orB,eqI] at h
end Go.TM.Ft
namespace Go.TM.Ft
open Go Go.TM Go.Proofs
set_option maxRecDepth 20000
attribute [local congr] gif_cg
attribute [local simp] footOf noClash clash upsets setsHit setHits layHits layMeets setsMeet evFeet
theorem szAt_lt {l:List Int} {k:Nat} (h:k < l.length):szAt l (k:Int)=l[k]:=szAt_get h
theorem kindN_at {l:List Node} {k:Nat} {n:Node} (h:l[k]?=some n):kindN l (k:Int)=n.kind:=by simp [kindN,h]
structure Vals (l:List Node) (i:Nat) (acc:List Int):Prop where
 len:acc.length=i
 rng:∀ (k:Nat) (h:k < acc.length),-1000000≤acc[k]∧acc[k]≤1000000
 bool:∀ (k:Nat) (h:k < acc.length),(partB (kindN l (k:Int))).2=2→acc[k]=0∨acc[k]=1
theorem badV_f {v:Int} (h:badV v=false):-1000000≤v∧v≤1000000:=by
 unfold badV at h
 have:inR v (-1000000) 1000000=true:=by cases e:inR v (-1000000) 1000000 <;> simp [notB,e] at h ⊢
 simp [inR,andB,leI] at this
 exact this
theorem rawM_10 (a b:Int):rawM 10 a b=1 - a:=rfl
theorem part_bool {k:Int} (h:(partB k).2=2):7≤k:=by
 unfold partB at h
 simp [leI] at h
 split at h
 ·simp at h
 ·omega
theorem Vals.next {l:List Node} (ok:ExprOk l) {i:Nat} {acc vars:List Int} (h:Vals l i acc) (hi:i < l.length) (hb:badV (nodeV vars acc l[i])=false):Vals l (i+1) (acc++[nodeV vars acc l[i]]):=by
 have hl:=h.len
 refine ⟨by simp [hl],fun k hk=>?_,fun k hk=>?_⟩
 ·simp at hk
  rcases Nat.lt_or_ge k acc.length with h' | h'
  ·rw [List.getElem_append_left h']; exact h.rng k h'
  ·have e:k=acc.length:=by omega
   subst e
   simp; exact badV_f hb
 ·intro hp
  simp at hk
  rcases Nat.lt_or_ge k acc.length with h' | h'
  ·rw [List.getElem_append_left h']; exact h.bool k h' hp
  ·have e:k=i:=by omega
   subst e
   have hn:l[k]?=some l[k]:=List.getElem?_eq_getElem hi
   rw [kindN_at hn] at hp
   have h7:=part_bool hp
   have hval:nodeV vars acc l[k]=rawM (l[k]).kind (szAt acc (l[k]).left) (szAt acc (l[k]).right):=by
    unfold nodeV
    rw [if_neg (by simp [eqI]; omega),if_neg (by simp [eqI]; omega)]
   have e:(acc++[nodeV vars acc l[k]])[k]'(by simp; omega)=nodeV vars acc l[k]:=by
    rw [List.getElem_append_right (by omega)]; simp
   rw [e,hval]
   have bl:∀ x:Int,0≤x→x≤(k:Int) - 1→(partB (kindN l x)).2=2→szAt acc x=0∨szAt acc x=1:=by
    intro x h0 h1 h2
    obtain ⟨y,rfl⟩:=Int.eq_ofNat_of_zero_le h0
    rw [szAt_lt (by omega)]
    exact h.bool y (by omega) h2
   rcases node_kinds (ok.node k _ hn) with q | q | q | q
   ·omega
   ·omega
   ·rw [q.1,rawM_10]
    have t:=(ok.typ k _ hn (by omega)).1
    rw [q.1] at t
    rcases bl _ q.2.2.1 q.2.2.2 t with e | e <;> rw [e] <;> simp
   ·by_cases k7:(l[k]).kind=7
    ·rw [k7]; simpa [rawM,eqI] using ci_01 _
    by_cases k8:(l[k]).kind=8
    ·rw [k8]; simpa [rawM,eqI] using ci_01 _
    have k9:(l[k]).kind=9:=by omega
    have t:=ok.typ k _ hn (by omega)
    rw [k9] at t ⊢
    have b1:=bl _ q.2.2.1 q.2.2.2.1 t.1
    have b2:=bl _ q.2.2.2.2.1 q.2.2.2.2.2 (t.2 (by omega))
    rcases b1 with e | e <;> rcases b2 with e2 | e2 <;> rw [e,e2] <;> simp [rawM,eqI]
end Go.TM.Ft
namespace Go.TM.Ft
open Go Go.TM Go.Proofs
set_option maxRecDepth 20000
structure Wf (l:List Step):Prop where
 ok:ProcOk l
 one:∀ (k:Nat) (s:Step),l[k]?=some s→one4M l k s=0
 typ:procC l=0
theorem typesM_typ {l:List Node}:∀ (r:List Node) (i:Nat) (acc:List Int),l.drop i=r→acc.length=i→(∀ k,k < i→acc[k]?=(l[k]?).map fun n=>(partB n.kind).2)→(typesM r acc).1=true→
  (typesM r acc).2=acc++r.map (fun n=>(partB n.kind).2)∧∀ (k:Nat) (n:Node),i≤k→l[k]?=some n→badT n ((typesM r acc).2.take k)=false
 | [],i,acc,hd,ha,_,ht=>by
  refine ⟨by simp [typesM],fun k n hk hn=>?_⟩
  have:l.length≤i:=List.drop_eq_nil_iff.1 hd
  rw [List.getElem?_eq_none (by omega)] at hn; simp at hn
 | x::r,i,acc,hd,ha,hp,ht=>by
  obtain ⟨hi,hc,hr⟩:=drop_cons hd
  unfold typesM at ht ⊢
  split at ht
  ·simp at ht
  ·rename_i hb
   rw [if_neg hb]
   have hb':badT x acc=false:=by simpa using hb
   obtain ⟨g1,g2⟩:=typesM_typ (l:=l) r (i+1) (acc++[(partB x.kind).2]) hr (by simp [ha]) (fun k hk=>by
    rcases Nat.lt_or_ge k i with h | h
    ·rw [List.getElem?_append_left (by omega)]; exact hp k h
    ·have e:k=i:=by omega
     subst e
     rw [List.getElem?_append_right (by omega),List.getElem?_eq_getElem hi,hc]
     simp [ha]) ht
   refine ⟨by rw [g1]; simp,fun k n hk hn=>?_⟩
   rcases Nat.lt_or_ge i k with h | h
   ·exact g2 k n h hn
   ·have e:k=i:=by omega
    subst e
    rw [List.getElem?_eq_getElem hi,hc] at hn
    simp only [Option.some.injEq] at hn
    subst hn
    rw [g1,List.append_assoc,List.take_append_of_le_length (by omega),List.take_of_length_le (by omega)]
    exact hb'
theorem expr_ok {l:List Node} {want:Int} (hne:l≠[]) (h:typeFaultM l want=0):ExprOk l:=by
 unfold typeFaultM at h
 split at h
 ·rename_i c
  simp [eqI] at c
  exact absurd c hne
 obtain ⟨h1,h2⟩:=first2_zero h
 unfold typeM at h1
 split at h1
 ·rename_i c; simp only at h1; rw [h1] at c; simp [notB,eqI] at c
 rename_i c0
 have e0:exprM l=0:=by simpa [notB,eqI] using c0
 obtain ⟨g1,g2,g3⟩:=expr_zero e0
 split at h1
 ·rename_i c1
  obtain ⟨t1,t2⟩:=typesM_typ (l:=l) l 0 [] rfl rfl (fun k h=>by omega) c1
  have nd:∀ (k:Nat) (n:Node),l[k]?=some n→nodeFaultM n (k:Nat)=0:=fun k n hn=>by have:=nodes_all g3 k n hn; simpa using this
  refine ⟨g1,g2,nd,fun k n hn hk=>?_⟩
  have hb:=t2 k n (Nat.zero_le _) hn
  have hkl:k < l.length:=by
   rcases Nat.lt_or_ge k l.length with h | h
   ·exact h
   ·rw [List.getElem?_eq_none h] at hn; simp at hn
  have at_:∀ x:Int,0≤x→x≤(k:Int) - 1→szAt ((typesM l []).2.take k) x=(partB (kindN l x)).2:=by
   intro x hx0 hx1
   obtain ⟨y,rfl⟩:=Int.eq_ofNat_of_zero_le hx0
   have hy:y < k:=by omega
   have hyl:y < l.length:=by omega
   rw [t1]
   simp [szAt,List.getElem?_take,hy,kindN,hyl]
  unfold badT at hb
  have nk:=node_kinds (nd k n hn)
  have hk2:ltI 2 n.kind=true:=by simp [ltI]; exact hk
  rw [hk2] at hb
  rcases nk with q | q | q | q
  ·omega
  ·omega
  ·rw [at_ _ q.2.2.1 q.2.2.2] at hb
   have e39:inR n.kind 3 9=false:=by rw [q.1]; rfl
   rw [e39] at hb
   simp [orB,andB,notB,eqI] at hb
   exact ⟨hb,fun h=>by omega⟩
  ·rw [at_ _ q.2.2.1 q.2.2.2.1,at_ _ q.2.2.2.2.1 q.2.2.2.2.2] at hb
   have e39:inR n.kind 3 9=true:=by simp [inR,andB,leI]; omega
   rw [e39] at hb
   simp [orB,andB,notB,eqI] at hb
   exact ⟨hb.1,fun _=>hb.2⟩
 ·simp at h1
theorem procC_at:∀ {l:List Step},procC l=0→∀ s,s∈l→typeFaultM s.cond 2=0∧typeFaultM s.expr 1=0
 | [],_,s,h=>by simp at h
 | x::l,hz,s,h=>by
  unfold procC at hz
  split at hz
  ·rename_i c; rw [hz] at c; simp [notB,eqI] at c
  ·rename_i c
   rcases List.mem_cons.1 h with rfl | h
   ·exact first2_zero (by simpa [notB,eqI] using c)
   ·exact procC_at hz s h
theorem one_parts {l:List Step} {i:Nat} {s:Step} (h:one4M l i s=0):
  1≤s.kind∧s.kind≤8∧bare4 s=true∧par4 s i=false∧(0 < i→line4 l i=true)∧deep4 l i≤7∧argM s.kind s.arg=true∧(s.kind=7→expr4M s.expr=0):=by
 unfold one4M at h
 split at h
 ·simp at h
 rename_i c1
 split at h
 ·simp at h
 rename_i c2
 split at h
 ·simp at h
 rename_i c3
 split at h
 ·simp at h
 rename_i c4
 have hk:inR s.kind 1 8=true∧bare4 s=true:=by
  cases a:inR s.kind 1 8 <;> cases b:bare4 s <;> simp [a,b,orB,notB] at c1 ⊢
 have hk1:1≤s.kind∧s.kind≤8:=by have:=hk.1; simp [inR,andB,leI] at this; exact this
 have tl:tail4 s=0→argM s.kind s.arg=true∧(s.kind=7→expr4M s.expr=0):=by
  intro ht
  unfold tail4 at ht
  split at ht
  ·simp at ht
  ·rename_i d
   refine ⟨by simpa [notB] using d,fun h7=>?_⟩
   rw [if_pos (by simp [eqI,h7])] at ht
   exact ht
 have ht:tail4 s=0:=by
  split at h
  ·split at h
   ·rename_i d; rw [h] at d; simp [notB,eqI] at d
   ·exact h
  ·exact h
 obtain ⟨t1,t2⟩:=tl ht
 refine ⟨hk1.1,hk1.2,hk.2,by simpa using c2,fun h0=>?_,by simp [ltI] at c4; omega,t1,t2⟩
 have:ltI 0 (i:Int)=true:=by simp [ltI]; omega
 rw [this] at c3
 simpa [andB,notB] using c3
section
variable {l:List Step}
theorem Wf.at (w:Wf l) {k:Nat} (h:k < l.length):one4M l k l[k]=0:=w.one k _ (List.getElem?_eq_getElem h)
theorem kindOf_at {k:Nat} (h:k < l.length):kindOf l (k:Int)=(l[k]).kind:=by simp [kindOf,h]
theorem parOf_at {k:Nat} (h:k < l.length):parOf l k=(l[k]).parent:=by simp [parOf,h]
theorem Wf.kind (w:Wf l) {k:Nat} (h:k < l.length):1≤(l[k]).kind∧(l[k]).kind≤8:=⟨(one_parts (w.at h)).1,(one_parts (w.at h)).2.1⟩
theorem Wf.cond (w:Wf l) {s:Step} (hs:s∈l) (hne:s.cond≠[]):ExprOk s.cond:=expr_ok hne (procC_at w.typ s hs).1
theorem Wf.expr (w:Wf l) {k:Nat} (h:k < l.length) (h7:(l[k]).kind=7):ExprOk (l[k]).expr∧0≤(l[k]).arg∧(l[k]).arg≤3:=by
 have p:=one_parts (w.at h)
 have hx:=p.2.2.2.2.2.2.2 h7
 refine ⟨expr_ok (want:=1) (fun e=>?_) (procC_at w.typ _ (List.getElem_mem h)).2,?_⟩
 ·rw [e] at hx; simp [expr4M,orB,ltI] at hx
 ·have:=p.2.2.2.2.2.2.1
  rw [h7] at this
  simp [argM,eqI,inR,andB,leI] at this
  exact this
theorem Wf.par (w:Wf l) {k:Nat} (h:k < l.length) (h0:0 < k):∃ q:Nat,parOf l k=q∧q < k:=by
 obtain ⟨a,h1,h2⟩:=w.ok.par k h h0
 exact ⟨a,by rw [parOf_at h,h1],h2⟩
theorem Wf.par0 (w:Wf l):parOf l 0=-1:=by
 have h:0 < l.length:=by have:=w.ok.pos; omega
 rw [parOf_at h]; exact w.ok.par0 h
inductive Und (l:List Step) (a:Nat):Nat→Prop
 | self:Und l a a
 | up {i q:Nat}:i < l.length→parOf l i=(q:Int)→q < i→Und l a q→Und l a i
theorem Und.le {a i:Nat} (h:Und l a i):a≤i:=by
 induction h with
 | self=>exact Nat.le_refl _
 | up _ _ h2 _ ih=>omega
theorem Und.trans {a b c:Nat} (h1:Und l a b) (h2:Und l b c):Und l a c:=by
 induction h2 with
 | self=>exact h1
 | up g1 g2 g3 _ ih=>exact .up g1 g2 g3 ih
theorem Wf.root (w:Wf l):∀ {i:Nat},i < l.length→Und l 0 i:=by
 intro i
 induction i using Nat.strongRecOn with
 | ind i ih=>
  intro hi
  rcases Nat.eq_zero_or_pos i with h | h
  ·subst h; exact .self
  ·obtain ⟨q,h1,h2⟩:=w.par hi h
   exact .up hi h1 h2 (ih q h2 (by omega))
theorem Wf.ahead (w:Wf l) {i:Nat}:Ahead l i:=fun k hk _=>by
 rcases Nat.eq_zero_or_pos k with h | h
 ·subst h
  have:=w.ok.par0 hk
  omega
 ·obtain ⟨q,h1,h2⟩:=w.ok.par k hk h
  omega
theorem line_und (w:Wf l) {p:Nat}:∀ (f:Nat) (i:Int),i < l.length→lineM l p f i=true→∃ j:Nat,i=j∧Und l p j
 | 0,i,_,h=>by simp [lineM] at h
 | f+1,i,hi,h=>by
  unfold lineM at h
  split at h
  ·rename_i c
   obtain ⟨j,rfl⟩:=Int.eq_ofNat_of_zero_le (show 0≤i by simpa [leI] using c)
   split at h
   ·rename_i d
    have:(j:Int)=p:=by simpa [eqI] using d
    have:j=p:=Int.ofNat.inj this
    subst this
    exact ⟨j,rfl,.self⟩
   ·have hj:j < l.length:=by omega
    rw [Int.toNat_natCast] at h
    have hpl:parOf l j < l.length:=by
     rcases Nat.eq_zero_or_pos j with h' | h'
     ·subst h'; rw [w.par0]; omega
     ·obtain ⟨q,h1,h2⟩:=w.par hj h'; omega
    obtain ⟨q,h1,h2⟩:=line_und w f (parOf l j) hpl h
    rcases Nat.eq_zero_or_pos j with h' | h'
    ·subst h'; rw [w.par0] at h1; omega
    ·obtain ⟨q',h3,h4⟩:=w.par hj h'
     have:q=q':=by omega
     subst this
     exact ⟨j,rfl,.up hj h3 h4 h2⟩
  ·simp at h
theorem Wf.before (w:Wf l) {i q:Nat} (hi:i < l.length) (h0:0 < i) (hp:parOf l i=(q:Int)):Und l q (i - 1):=by
 have hl:=(one_parts (w.at hi)).2.2.2.2.1 h0
 unfold line4 at hl
 rw [hp] at hl
 obtain ⟨j,h1,h2⟩:=line_und w _ _ (by omega) hl
 have:j=i - 1:=by omega
 rw [← this]; exact h2
end
end Go.TM.Ft
namespace Go.TM.Ft
open Go Go.TM Go.Proofs
set_option maxRecDepth 20000
attribute [local congr] gif_cg
attribute [local simp] footOf noClash clash upsets setsHit setHits layHits layMeets setsMeet evFeet
end Go.TM.Ft
namespace Go.TM.Ft
open Go Go.TM Go.Proofs
set_option maxRecDepth 20000
attribute [local congr] gif_cg
attribute [local simp] footOf noClash clash upsets setsHit setHits layHits layMeets setsMeet evFeet
end Go.TM.Ft
namespace Go.TM.Ft
open Go Go.TM Go.Proofs
set_option maxRecDepth 20000
attribute [local congr] gif_cg
attribute [local simp] footOf noClash clash upsets setsHit setHits layHits layMeets setsMeet evFeet seal4_iE
theorem Wf.condOf {l:List Step} (w:Wf l) {k:Nat} (hk:k < l.length) (h:ltI 0 (Ft.condOf l k).length=true):ExprOk (Ft.condOf l k):=by
 have e:Ft.condOf l k=(l[k]).cond:=by simp [Ft.condOf,hk]
 rw [e] at h ⊢
 refine w.cond (List.getElem_mem hk) fun hn=>?_
 rw [hn] at h; simp [ltI] at h
structure Inv (l:List Step) (c:Chart):Prop where
 vars:c.vars.length=4
 acts:c.acts.length=l.length
 dues:c.dues.length=l.length
 now0:0≤c.now
 now1:c.now≤1000000
 rng:∀ x,x∈c.vars→badV x=false
end Go.TM.Ft
