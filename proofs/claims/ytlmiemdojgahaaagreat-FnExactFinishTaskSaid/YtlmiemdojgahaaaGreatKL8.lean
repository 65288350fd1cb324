/- What functions of the program come to, by the machine. -/
import Derived.Test.YtlmiemdojgahaaaGreatKL7
import Derived.Test.YtlmiemdojgahaaaGreatKL4
set_option linter.unusedSimpArgs false
set_option linter.unusedVariables false
set_option maxHeartbeats 4000000
namespace Go.TM.Ft
open Go Go.TM Go.Proofs Go.Proofs.Tryz
set_option maxRecDepth 20000
def onM (l:List Step) (c:Chart) (i:Nat):Nat:=C7 c.acts 1 (B9 i 0 l) 0
def ovM (l:List Step) (c:Chart) (i:Nat):Nat:=C7 c.acts 2 (B9 i 0 l) 0
theorem c3r {l:List Step} {c:Chart} {i:Nat}:a9m l c i=false ↔
    (A4 c.acts i≠1∧onM l c i+ovM l c i=0∧A4 c.dues i=0)∨
    (A4 c.acts i=1∧
      (((A9 l i = 1 ∨ A9 l i = 3) ∧ onM l c i = 1 ∧ ovM l c i = 0 ∧ A4 c.dues i = 0) ∨
       (A9 l i=4∧onM l c i≠0∧onM l c i+ovM l c i=(B9 i 0 l).length∧A4 c.dues i=0)∨
       (A9 l i=8∧onM l c i=1∧ovM l c i=0∧(A4 c.dues i≠0 ↔ A4 c.acts (A4 (B9 i 0 l) 0)=1))∨
       (A9 l i=6∧A4 c.dues i≠0)∨
       (A9 l i≠1∧A9 l i≠3∧A9 l i≠4∧A9 l i≠8∧A9 l i≠6∧A9 l i≠7∧A4 c.dues i=0))):=by
  unfold a9m a5s
  rw [show C7 c.acts 1 (B9 i 0 l) 0=onM l c i from rfl,show C7 c.acts 2 (B9 i 0 l) 0=ovM l c i from rfl]
  generalize onM l c i=on
  generalize ovM l c i=ov
  generalize A9 l i=k
  generalize A4 c.acts i=ac
  generalize A4 c.dues i=du
  generalize hks:B9 i 0 l=ks
  generalize A4 c.acts (A4 ks 0)=fa
  by_cases h1:ac=1
  · by_cases k1 : k = 1
    · simp [h1,k1,A0,eqI,orB,ltI]; omega
    by_cases k3:k=3
    · simp [h1,k3,A0,eqI,orB,ltI]; omega
    by_cases k4:k=4
    · simp [h1,k4,A0,eqI,orB,ltI]; omega
    by_cases k8:k=8
    · by_cases d0:du=0 <;> by_cases f0:fa=1 <;> simp [h1,k8,A0,eqI,orB,ltI,eqB,d0,f0] <;> first | omega | (intro _ _; rw [show (du==0)=false by simp [d0],show (fa==1)=false by simp [f0]])
    by_cases k6:k=6
    · simp [h1,k6,A0,eqI,orB]
    by_cases k7:k=7
    · simp [h1,k7,A0,eqI,orB]
    · simp [h1,k1,k3,k4,k8,k6,k7,A0,eqI,orB]
  · simp [h1,A0,eqI,orB,ltI]; omega
theorem c5m {l:List Step} {c:Chart} {i:Nat} (hk:A7 i 0 l=B9 i 0 l):a6y l c i=true ↔
    ¬ (A4 c.acts i=2∧(i=0∨A9 l (parOf l i)≠4))∧
    ((A4 c.acts i ≠ 1 ∧ onM l c i + ovM l c i = 0 ∧ A4 c.dues i = 0) ∨
     (A4 c.acts i = 1 ∧
      (((A9 l i = 1 ∨ A9 l i = 3) ∧ onM l c i = 1 ∧ A4 c.dues i = 0) ∨
       (A9 l i=4∧onM l c i≠0∧onM l c i+ovM l c i=(B9 i 0 l).length∧A4 c.dues i=0)∨
       (A9 l i=8∧onM l c i=1∧(A4 c.dues i≠0 ↔ A4 c.acts (A4 (B9 i 0 l) 0)=1))∨
       (A9 l i=6∧A4 c.dues i≠0)∨
       (A9 l i≠1∧A9 l i≠3∧A9 l i≠4∧A9 l i≠8∧A9 l i≠6∧A9 l i≠7∧A4 c.dues i=0)))):=by
  unfold a6y a2k
  rw [hk]
  rw [show C7 c.acts 1 (B9 i 0 l) 0=onM l c i from rfl,show C7 c.acts 2 (B9 i 0 l) 0=ovM l c i from rfl]
  generalize onM l c i=on
  generalize ovM l c i=ov
  generalize A9 l i=k
  generalize A4 c.acts i=ac
  generalize A4 c.dues i=du
  generalize hks:B9 i 0 l=ks
  generalize A4 c.acts (A4 ks 0)=fa
  generalize A9 l (parOf l i)=pk
  have hb:A1 (eqI ac 2) (orB (eqI i 0) (A0 (eqI pk 4)))=true ↔ ac=2∧(i=0∨pk≠4):=by
    simp [A1,orB,A0,eqI]
  by_cases q:ac=2∧(i=0∨pk≠4)
  · rw [if_pos (hb.2 q)]
    simp [q]
  · rw [if_neg (fun h => q (hb.1 h))]
    simp only [q,not_false_eq_true,true_and]
    by_cases h1:ac=1
    · by_cases k1 : k = 1
      · by_cases o1:on=1 <;> by_cases d0:du=0 <;> simp [h1,k1,A0,eqI,orB,eqB,o1,d0] <;> omega
      by_cases k3:k=3
      · by_cases o1:on=1 <;> by_cases d0:du=0 <;> simp [h1,k3,A0,eqI,orB,eqB,o1,d0] <;> omega
      by_cases k4:k=4
      · by_cases o1:on=0 <;> by_cases o2:on+ov=ks.length <;> by_cases d0:du=0 <;> simp [h1,k4,A0,eqI,orB,eqB,o1,o2,d0] <;> omega
      by_cases k8:k=8
      · by_cases o1:on=1 <;> by_cases d0:du=0 <;> by_cases f0:fa=1 <;> simp [h1,k8,A0,eqI,orB,eqB,o1,d0,f0] <;> first | omega | (rw [show (du==0)=false by simp [d0],show (fa==1)=false by simp [f0]])
      by_cases k6:k=6
      · by_cases d0:du=0 <;> simp [h1,k6,A0,eqI,orB,eqB,d0]
      by_cases k7:k=7
      · simp [h1,k7,A0,eqI,orB]
      · by_cases d0:du=0 <;> simp [h1,k1,k3,k4,k8,k6,k7,A0,eqI,orB,eqB,d0]
    · by_cases d0:du=0 <;> simp [h1,A0,eqI,A1,d0] <;> omega
theorem d5f (l:List Step) (c:Chart):∀ (f i:Nat),a2j l c f i=false ↔ ∀ k,i≤k→k < i+f→a9m l c k=false
 | 0,i=>by simp [a2j]; intro k h1 h2; omega
 | f+1,i=>by
  unfold a2j
  have ih:=d5f l c f (i+1)
  cases h:a9m l c i
  ·simp only [Bool.false_eq_true,if_false]
   rw [ih]
   constructor
   ·intro hh k h1 h2
    rcases Nat.lt_or_ge i k with h' | h'
    ·exact hh k h' (by omega)
    ·have e:k=i:=by omega
     subst e; exact h
   ·intro hh k h1 h2; exact hh k (by omega) (by omega)
  ·simp only [if_true]
   constructor
   ·intro h'; simp at h'
   ·intro hh; have:=hh i (Nat.le_refl _) (by omega); rw [h] at this; simp at this
theorem d5g (l:List Step) (c:Chart):∀ (f i:Nat),a0q l c f i=true ↔ ∀ k,i≤k→k < i+f→a6y l c k=true
 | 0,i=>by simp [a0q]; intro k h1 h2; omega
 | f+1,i=>by
  unfold a0q
  have ih:=d5g l c f (i+1)
  cases h:a6y l c i
  ·simp only [Bool.false_eq_true,if_false]
   constructor
   ·intro h'; simp at h'
   ·intro hh; have:=hh i (Nat.le_refl _) (by omega); rw [h] at this; simp at this
  ·simp only [if_true]
   rw [ih]
   constructor
   ·intro hh k h1 h2
    rcases Nat.lt_or_ge i k with h' | h'
    ·exact hh k h' (by omega)
    ·have e:k=i:=by omega
     subst e; exact h
   ·intro hh k h1 h2; exact hh k (by omega) (by omega)
theorem a5e {l:List Step} (ok:ProcOk l) (i:Nat):A7 i 0 l=B9 i 0 l:=c3o l 0 fun _ s hs=>by
 have:=ok.par0 (by have:=ok.pos; omega)
 have h0:0 < l.length:=by have:=ok.pos; omega
 have e:l[0]?=some l[0]:=by simp
 rw [e] at hs
 have:=Option.some.inj hs
 subst this
 omega
theorem f6o {l:List Step} (ok:ProcOk l) {i:Nat} (hi:i < l.length) (h1:A9 l i≠1) (h3:A9 l i≠3) (h4:A9 l i≠4) (h8:A9 l i≠8):B9 i 0 l=[]:=by
 have hc:=ok.cond i hi
 unfold condFaultM at hc
 have hcode:b0k l i=0:=by
  split at hc
  ·exact hc
  ·rename_i c
   simp [orB,A0,eqI] at c
   exact c.1
 have:=(O1 hcode).1
 have hb:N8 (A9 l i)=(0,0):=by
  unfold N8
  simp [eqI,h1,h3,h4,h8]
 rw [hb] at this
 have hn:A0 (inR (A7 i 0 l).length 0 0)=false:=by
  cases h:A0 (inR (A7 i 0 l).length 0 0)
  ·rfl
  ·rw [h] at this; simp at this
 rw [a5e ok] at hn
 simp [A0,inR,A1,leI] at hn
 exact List.length_eq_zero_iff.1 (by simpa using hn)
theorem h1f {l:List Step} (ok:ProcOk l) {c:Chart} (h0:A4 c.acts 0=1):a0q l c l.length 0=true ↔ a2j l c l.length 0=false:=by
 rw [d5g,d5f]
 constructor
 ·intro hf k _ hk
  have hk:k < l.length:=by omega
  obtain ⟨_,h2⟩:=(c5m (a5e ok k)).1 (hf k (Nat.zero_le _) (by omega))
  have hov:A9 l k≠4→ovM l c k=0:=fun hk4=>by
   rcases Nat.eq_zero_or_pos (ovM l c k) with h | h
   ·exact h
   ·exfalso
    obtain ⟨x,hx,ha⟩:=(b9b _ _ _ _).1 h
    obtain ⟨a,hal,rfl,hp⟩:=b4u.1 hx
    rw [Nat.zero_add] at ha
    have ha0:a≠0:=fun h=>by subst h; simp at ha; rw [h0] at ha; omega
    obtain ⟨h1,_⟩:=(c5m (a5e ok a)).1 (hf a (Nat.zero_le _) (by omega))
    have hpa:parOf l a=k:=by simp [parOf,hal,hp]
    exact h1 ⟨ha,.inr (by rw [hpa]; exact hk4)⟩
  rw [c3r]
  rcases h2 with h | ⟨ha,h⟩
  ·exact .inl h
  ·right
   refine ⟨ha,?_⟩
   rcases h with ⟨hk1,h⟩ | h | ⟨hk8,h⟩ | h | h
   ·exact .inl ⟨hk1,h.1,hov (by omega),h.2⟩
   ·exact .inr (.inl h)
   ·exact .inr (.inr (.inl ⟨hk8,h.1,hov (by omega),h.2⟩))
   ·exact .inr (.inr (.inr (.inl h)))
   ·exact .inr (.inr (.inr (.inr h)))
 ·intro hw k _ hk
  have hk:k < l.length:=by omega
  have h2:=c3r.1 (hw k (Nat.zero_le _) (by omega))
  rw [c5m (a5e ok k)]
  refine ⟨fun ⟨ha,hor⟩=>?_,?_⟩
  ·have hk0:k≠0:=fun h=>by subst h; simp at ha; rw [h0] at ha; omega
   obtain ⟨a,hp,hak⟩:=ok.par k hk (by omega)
   have hal:a < l.length:=by omega
   have hmem:(k:Int)∈B9 a 0 l:=b4u.2 ⟨k,hk,by simp,hp⟩
   have hpa:parOf l k=a:=by simp [parOf,hk,hp]
   have hov:0 < ovM l c a:=(b9b _ _ _ _).2 ⟨k,hmem,ha⟩
   have hw2:=c3r.1 (hw a (Nat.zero_le _) (by omega))
   rw [hpa] at hor
   have hnk:∀ h:B9 a 0 l=[],False:=fun h=>by rw [h] at hmem; simp at hmem
   rcases hw2 with h | ⟨_,⟨_,h⟩ | h | ⟨_,h⟩ | h | h⟩
   ·omega
   ·omega
   ·rcases hor with h' | h'
    ·omega
    ·exact h' h.1
   ·omega
   ·exact hnk (f6o ok hal (by omega) (by omega) (by omega) (by omega))
   ·exact hnk (f6o ok hal h.1 h.2.1 h.2.2.1 h.2.2.2.1)
  ·rcases h2 with h | ⟨ha,h⟩
   ·exact .inl h
   ·right
    refine ⟨ha,?_⟩
    rcases h with ⟨hk1,h⟩ | h | ⟨hk8,h⟩ | h | h
    ·exact .inl ⟨hk1,h.1,h.2.2⟩
    ·exact .inr (.inl h)
    ·exact .inr (.inr (.inl ⟨hk8,h.1,h.2.2⟩))
    ·exact .inr (.inr (.inr (.inl h)))
    ·exact .inr (.inr (.inr (.inr h)))
theorem d5h (l:List Step) (c:Chart):a9n l c=chartM l c:=by
 have hq:¬ (A0 (eqI (0:Int) 0)=true):=by simp [A0,eqI]
 have hff:¬ (false=true):=by simp
 unfold a9n chartM a5r
 rw [c2k,d7p]
 by_cases h1:P6 l=0
 ·have ok:=b8z h1
  rw [h1,if_neg hq]
  cases q2:orB (A0 (inR c.status 1 3)) (A0 (inR c.now 0 1000000))
  ·rw [if_neg hff]
   by_cases h3:M4 c.vars=0
   ·rw [h3,if_neg hq]
    cases q4:orB (A0 (eqI c.acts.length l.length)) (A0 (eqI c.dues.length l.length))
    ·have hl:c.acts.length=l.length∧c.dues.length=l.length:=by
      simp [orB,A0,eqI] at q4; omega
     have e0:B5 0 (B5 (ci false 3) (B5 0 (ci false 2)))=0:=by rfl
     rw [if_neg hff,h4n hl.1 hl.2,h1e hl.1 hl.2,e0,if_neg hq]
     cases orB (A0 (smS 2 c.acts)) (A0 (smS (c.now+99) c.dues))
     ·rw [if_neg hff,if_neg hff]
      unfold b1n
      by_cases h5:c.status=1
      ·have hs:¬ (A0 (eqI c.status 1)=true):=by simp [A0,eqI,h5]
       rw [if_neg hs,if_neg hs]
       by_cases h6:A4 c.acts 0=1
       ·have hs2:¬ (A0 (eqI (A4 c.acts 0) 1)=true):=by simp [A0,eqI,h6]
        have hs3:eqI (A4 c.acts 0) 1=true:=by simp [eqI,h6]
        rw [if_neg hs2,hs3]
        have hfw:=h1f ok h6
        cases q6:a2j l c l.length 0
        ·rw [hfw.2 q6]; rfl
        ·cases q7:a0q l c l.length 0
         ·rfl
         ·rw [hfw.1 q7] at q6; simp at q6
       ·have hs2:A0 (eqI (A4 c.acts 0) 1)=true:=by simp [A0,eqI,h6]
        have:eqI (A4 c.acts 0) 1=false:=by simp [eqI,h6]
        rw [if_pos hs2,this]
        cases a0q l c l.length 0 <;> rfl
      ·have hs:A0 (eqI c.status 1)=true:=by simp [A0,eqI,h5]
       rw [if_pos hs,if_pos hs]
       cases A1 (smS 0 c.acts) (smS 0 c.dues) <;> rfl
     ·rfl
    ·rfl
   ·have e1:B5 0 (B5 (ci false 3) (B5 (M4 c.vars) (ci (orB (A0 (eqI c.acts.length l.length)) (A0 (eqI c.dues.length l.length))) 2)))=M4 c.vars:=by
     have:eqI (M4 c.vars) 0=false:=by simp [eqI,h3]
     simp [B5,ci,B7,this]
    have hs:A0 (eqI (M4 c.vars) 0)=true:=by simp [A0,eqI,h3]
    rw [e1,if_pos hs,if_pos hs]
  ·have e1:B5 0 (B5 (ci true 3) (B5 (M4 c.vars) (ci (orB (A0 (eqI c.acts.length l.length)) (A0 (eqI c.dues.length l.length))) 2)))=3:=by rfl
   rw [e1]; rfl
 ·have e1:∀ b,B5 (P6 l) b=P6 l:=fun b=>by
   have:eqI (P6 l) 0=false:=by simp [eqI,h1]
   simp [B5,this]
  have hs:A0 (eqI (P6 l) 0)=true:=by simp [A0,eqI,h1]
  rw [e1,if_pos hs,if_pos hs]
attribute [local congr] M0
attribute [local simp] K2 K6 J4 K3 H7 J9 H8 G9 J1 G3
theorem h1g (e:Engine) (x:Inst):a6w e x=a6z e x:=by
 unfold a6w a6z b0o
 rw [d5h]
 cases inR x.proc 0 ((e.procs.length:Int) - 1)
 ·rfl
 ·by_cases h:chartM (stepsOf e x) x.chart=0
  ·rw [h]
   cases eqI x.chart.now e.now <;> rfl
  ·have:eqI (chartM (stepsOf e x) x.chart) 0=false:=by simp [eqI,h]
   simp [A0,B5,this]
theorem d5i (e:Engine):∀ l,a3a e l=a0r e l
 | []=>rfl
 | x::l=>by
  unfold a3a a0r
  rw [h1g,d5i e l]
theorem d5j:∀ l,a2z l=a3d l
 | []=>rfl
 | x::l=>by
  unfold a2z a3d
  rw [c2k,d5j l]
theorem g6o (l:List (List Step)):a9g l=a4q l:=by
 unfold a9g a4q
 rw [d5j]
 by_cases h:1≤l.length∧l.length≤3
 ·rw [if_neg (by simp [orB,ltI]; omega),if_neg (by simp [A0,inR,A1,leI]; omega)]
 ·rw [if_pos (by simp [orB,ltI]; omega),if_pos (by simp [A0,inR,A1,leI]; omega)]
theorem e2b (e:Engine):c0i e=P9 e:=by
 unfold c0i P9 b3u
 rw [d5i,g6o]
 cases q1:ltI 6 e.insts.length
 ·by_cases q2:a4q e.procs=0
  ·have q3:inR e.procs.length 1 3=true:=by
    unfold a4q at q2
    split at q2
    ·simp at q2
    ·rename_i c; simpa [A0] using c
   rw [q2,q3]
   cases inR e.now 0 1000000 <;> rfl
  ·have e0:eqI (a4q e.procs) 0=false:=by simp [eqI,q2]
   have e1:B5 (a4q e.procs) (ci (A0 (inR e.now 0 1000000)) 3)=a4q e.procs:=by simp [B5,e0]
   rw [e1,e0]
   cases q3:inR e.procs.length 1 3
   ·unfold a4q; rw [q3]; rfl
   ·rfl
 ·cases inR e.procs.length 1 3 <;> rfl
theorem b7u (a b:Claim):leI 0 (a4z a b)=A0 (a5t a b):=by
 unfold a4z a5t a9y B5
 rcases Int.lt_trichotomy a.inst b.inst with h | h | h
 ·simp [ltI,h,eqI,leI,A0,orB]
 ·rcases Int.lt_trichotomy a.step b.step with h2 | h2 | h2
  ·simp [ltI,h,h2,eqI,leI,A0,orB,A1]
  ·simp [ltI,h,h2,eqI,leI,A0,orB,A1]
  ·have:¬ a.step < b.step:=by omega
   simp [ltI,h,h2,this,eqI,leI,A0,orB,A1]
 ·have h1:¬ a.inst < b.inst:=by omega
  have h2:¬ a.inst=b.inst:=by omega
  simp [ltI,h,h1,h2,eqI,leI,A0,orB,A1]
theorem d1e (d:Desk) (hf:FitE d.eng) (h0:P9 d.eng=0) (hcl:d.claims.length≤60):∀ (rest:List Claim) (i:Nat),d.claims.drop i=rest→
    A6 E (orc E) (151:Nat) (rest.length+1) (A8 f151 0) ⟨76,[(0,.ipt (dT d)),(4,vI i)],[],2⟩=
    (if eqI (J8 d i rest) 0 = true then some (.exit 0, ⟨76, [(0, .ipt (dT d)), (4, vI (i + rest.length : Nat)), (25, vB false)], [], 2⟩)
     else some (.ret,⟨76,[(2,vI (J8 d i rest))],[],2⟩))
  | [],i,h=>by
    have hge:d.claims.length≤i:=by simpa using h
    have hlt:ltI (i:Int) (d.claims.length:Int)=false:=B6 (by omega)
    rw [C3]
    simp +contextual -dsimp [f151,hlt,J8,B7]
  | x::rest,i,h=>by
    obtain ⟨hi,hc,hr⟩:=C6 h
    obtain ⟨n1,n2,n3⟩:=b2d h0
    have hlt:ltI (i:Int) (d.claims.length:Int)=true:=C4 (by omega)
    have hw:IntKind.i64.wrap ((i:Int)+1)=((i+1:Nat):Int):=by rw [A5] <;> omega
    have hwi:IntKind.i64.wrap ((d.eng.insts.length:Int) - 1)=(d.eng.insts.length:Int) - 1:=by rw [A5] <;> omega
    have he:i+1+rest.length=i+(rest.length+1):=by omega
    have out:∀ k:Int,K1 d i x=k→eqI k 0=false→J8 d i (x::rest)=k:=fun k h1 h2=>by simp [J8,h1,h2]
    cases q1:inR x.inst 0 ((d.eng.insts.length:Int) - 1)
    · have h3 : K1 d i x = 3 := by simp [K1, q1, A0, orB]
      have hm:=out 3 h3 rfl
      have h30:eqI (3:Int) 0=false:=rfl
      rw [hm,h30,if_neg (by simp)]
      refine D3 ?_ (by simp)
      simp (maxSteps:=1000000) +contextual -dsimp [f151,hlt,hi,hc,hwi,C8,q1,List.set]
    cases q2:inR x.user 1 9
    · have h3 : K1 d i x = 3 := by simp [K1, q1, q2, A0, orB]
      have hm:=out 3 h3 rfl
      have h30:eqI (3:Int) 0=false:=rfl
      rw [hm,h30,if_neg (by simp)]
      refine D3 ?_ (by simp)
      simp (maxSteps:=1000000) +contextual -dsimp [f151,hlt,hi,hc,hwi,C8,a7k,q1,q2,List.set]
    obtain ⟨b,hb,hbl⟩:∃ b:Nat,x.inst=b∧b < d.eng.insts.length:=by
      simp [inR,A1,leI] at q1
      obtain ⟨k,hk⟩:=Int.eq_ofNat_of_zero_le q1.1
      exact ⟨k,hk,by omega⟩
    obtain ⟨a,ha,hx,e2,ok,hlen⟩:=(n3 (d.eng.insts[b]) (List.getElem_mem _)).at_
    have g1:=c3q d.eng [.sl 150 (d.claims.map kT)] b hbl a hx ha (by have:=ok.le; omega) hlen x.step
    rw [← hb] at g1
    have g2:=g8f (L0 d.claims (i - 1)) x
    cases q3:V7 d.eng x.inst x.step
    · have h3 : K1 d i x = 4 := by simp [K1, q1, q2, q3, A0, orB]
      have hm:=out 4 h3 rfl
      have h30:eqI (4:Int) 0=false:=rfl
      rw [hm,h30,if_neg (by simp)]
      refine D3 ?_ (by simp)
      simp (maxSteps:=1000000) +contextual -dsimp [f151,hlt,hi,hc,hwi,C8,a7k,g1,q1,q2,q3,List.set]
    rcases Nat.eq_zero_or_pos i with hi0 | hi0
    · have hl0 : ltI 0 (i : Int) = false := B6 (by omega)
      have h3:K1 d i x=0:=by simp [K1,q1,q2,q3,hl0,A0,orB,A1]
      have ih:=d1e d hf h0 hcl rest (i+1) hr
      rw [he] at ih
      have hm:J8 d i (x::rest)=J8 d (i+1) rest:=by simp [J8,h3,B7]
      rw [hm]
      refine C1 ?_ (by simpa only [List.length_cons] using ih)
      simp (maxSteps:=1000000) +contextual -dsimp [f151,hlt,hi,hc,hw,hwi,C8,a7k,g1,q1,q2,q3,hl0,List.set]
    · have hl0 : ltI 0 (i : Int) = true := C4 (by omega)
      have hi1:i - 1 < d.claims.length:=by omega
      have hw1:IntKind.i64.wrap ((i:Int) - 1)=((i - 1:Nat):Int):=by rw [A5] <;> omega
      have hcl1:L0 d.claims (i - 1)=d.claims[i - 1]:=by simp [L0,hi1]
      rw [hcl1] at g2
      cases q4:a5t (d.claims[i - 1]) x
      · have h3 : K1 d i x = 1 := by simp [K1, q1, q2, q3, hl0, hcl1, b7u, q4, A0, orB, A1]
        have hm:=out 1 h3 rfl
        have h30:eqI (1:Int) 0=false:=rfl
        rw [hm,h30,if_neg (by simp)]
        refine D3 ?_ (by simp)
        simp (maxSteps:=1000000) +contextual -dsimp [f151,hlt,hi,hc,hwi,C8,a7k,g1,g2,q1,q2,q3,q4,hl0,hi1,hw1,List.set]
      · have h3 : K1 d i x = 0 := by simp [K1, q1, q2, q3, hl0, hcl1, b7u, q4, A0, orB, A1]
        have ih:=d1e d hf h0 hcl rest (i+1) hr
        rw [he] at ih
        have hm:J8 d i (x::rest)=J8 d (i+1) rest:=by simp [J8,h3,B7]
        rw [hm]
        refine C1 ?_ (by simpa only [List.length_cons] using ih)
        simp (maxSteps:=1000000) +contextual -dsimp [f151,hlt,hi,hc,hw,hwi,C8,a7k,g1,g2,q1,q2,q3,q4,hl0,hi1,hw1,List.set]
theorem g8g (d:Desk) (hf:FitE d.eng) (hc:d.claims.length < 2 ^ 62):fo 151 [A (.ipt (dT d))]=some (R (vI (a2l d))):=by
 have g1:=d5e d.eng [.sl 150 (d.claims.map kT)] hf
 rw [e2b] at g1
 unfold a2l a8l
 refine h6w (d.claims.length+1) ?_
 cases q1:eqI (P9 d.eng) 0
 ·simp (maxSteps:=1000000) +contextual -dsimp [f151,g1,q1,B5]
 ·have e0:P9 d.eng=0:=by simpa [eqI] using q1
  cases q2:ltI 60 d.claims.length
  ·have hlp:=d1e d hf e0 (by simp [ltI] at q2; omega) d.claims 0 rfl
   simp -dsimp [f151] at hlp
   cases q4:eqI (J8 d 0 d.claims) 0
   ·rw [q4] at hlp
    simp (maxSteps:=1000000) +contextual -dsimp [f151,g1,e0,q2,B7,B5,ci,hlp]
   ·rw [q4] at hlp
    have e1:J8 d 0 d.claims=0:=by simpa [eqI] using q4
    simp (maxSteps:=1000000) +contextual -dsimp [f151,g1,e0,q2,e1,B7,B5,ci,hlp]
  ·have h20:eqI (2:Int) 0=false:=rfl
   simp (maxSteps:=1000000) +contextual -dsimp [f151,g1,e0,q2,B7,B5,ci,h20]
def O4 {α σ ε:Type} (g:Nat→σ→α→ε ⊕ σ):Nat→σ→List α→ε ⊕ σ
 | _,s,[]=>.inr s
 | i,s,x::r=>match g i s x with | .inr s'=>O4 g (i+1) s' r | .inl e=>.inl e
def b1o {σ ε:Type} (id:Nat) (Z:σ→St) (X:ε→St→Prop) (r:Option (Ex × St)):ε ⊕ σ→Prop
 | .inr s=>r=some (.exit id,Z s)
 | .inl e=>∃ st,r=some (.ret,st)∧X e st
theorem b4v {α σ ε:Type} {f id:Nat} {code:Code} (all:List α) (I:Nat→σ→Prop) (S:Nat→σ→St) (g:Nat→σ→α→ε ⊕ σ) (Z:σ→St) (X:ε→St→Prop)
  (hz:∀ k s,I all.length s→C0 E (orc E) f (A6 E (orc E) f k) code (S all.length s)=some (.exit id,Z s))
  (hs:∀ k i s (h:i < all.length),I i s→(∀ s',g i s all[i]=.inr s'→C0 E (orc E) f (A6 E (orc E) f k) code (S i s)=some (.normal,S (i+1) s')∧I (i+1) s')∧
   (∀ e,g i s all[i]=.inl e→∃ st,C0 E (orc E) f (A6 E (orc E) f k) code (S i s)=some (.ret,st)∧X e st)):
  ∀ (rest:List α) (i:Nat) (s:σ),all.drop i=rest→i≤all.length→I i s→
   b1o id Z X (A6 E (orc E) f (rest.length+1) code (S i s)) (O4 g i s rest)
 | [],i,s,h,hi,hI=>by
  have e:i=all.length:=by have:=List.drop_eq_nil_iff.1 h; omega
  subst e
  exact D3 (hz _ s hI) (by simp)
 | x::rest,i,s,h,hi,hI=>by
  obtain ⟨hi,hc,hr⟩:=C6 h
  obtain ⟨h1,h2⟩:=hs (rest.length+1) i s hi hI
  unfold O4
  rw [hc] at h1 h2
  cases q:g i s x with
  | inr s'=>
   obtain ⟨g1,g2⟩:=h1 s' q
   have ih:=b4v all I S g Z X hz hs rest (i+1) s' hr hi g2
   rw [← C1 (E:=E) (call:=orc E) g1 rfl] at ih
   exact ih
  | inl e=>
   obtain ⟨st,g1,g2⟩:=h2 e q
   exact ⟨st,D3 g1 (by simp),g2⟩
def M9 {α σ:Type} (g:Nat→σ→α→σ):Nat→σ→List α→σ
 | _,s,[]=>s
 | i,s,x::r=>M9 g (i+1) (g i s x) r
theorem f6p {α σ ε:Type} (g:Nat→σ→α→σ):∀ (l:List α) (i:Nat) (s:σ),O4 (ε:=ε) (fun i s x=>.inr (g i s x)) i s l=.inr (M9 g i s l)
 | [],_,_=>rfl
 | x::l,i,s=>by simp only [O4,M9]; exact f6p g l (i+1) (g i s x)
theorem a4h {α σ:Type} {f id:Nat} {code:Code} (all:List α) (I:Nat→σ→Prop) (S:Nat→σ→St) (g:Nat→σ→α→σ) (Z:σ→St)
  (hz:∀ k s,I all.length s→C0 E (orc E) f (A6 E (orc E) f k) code (S all.length s)=some (.exit id,Z s))
  (hs:∀ k i s (h:i < all.length),I i s→C0 E (orc E) f (A6 E (orc E) f k) code (S i s)=some (.normal,S (i+1) (g i s all[i]))∧I (i+1) (g i s all[i])) (s0:σ) (h0:I 0 s0):
  A6 E (orc E) f (all.length+1) code (S 0 s0)=some (.exit id,Z (M9 g 0 s0 all)):=by
 have:=b4v (f:=f) (id:=id) (code:=code) (ε:=Empty) all I S (fun i s x=>.inr (g i s x)) Z (fun e _=>nomatch e) hz
  (fun k i s h hI=>⟨fun s' he=>by simp only [Sum.inr.injEq] at he; subst he; exact hs k i s h hI,fun e=>nomatch e⟩) all 0 s0 rfl (Nat.zero_le _) h0
 rw [f6p] at this
 exact this
theorem P1 {i n:Nat} (h:i < n) (hn:n < 2 ^ 62):IntKind.i64.wrap ((i:Int)+1)=((i+1:Nat):Int):=by rw [A5] <;> omega
theorem P7 {i n:Nat} (h:i < n):ltI (i:Int) (n:Int)=true:=C4 (by omega)
theorem a2m (n:Nat):ltI (n:Int) (n:Int)=false:=B6 (by omega)
theorem g2r (b:Bool):ci b 1=0∨ci b 1=1:=by cases b <;> simp [ci]
def N9 (k a b:Int):Int:=
 if eqI k 3=true then a+b else if eqI k 4=true then a - b else if eqI k 5=true then a*b else if eqI k 6=true then Int.tdiv a b
 else if eqI k 7=true then ci (ltI a b) 1 else if eqI k 8=true then ci (eqI a b) 1 else if eqI k 9=true then a*b else 1 - a
def O0 (k b:Int):Bool:=A1 (eqI k 6) (eqI b 0)
def Q9 (vars acc:List Int) (n:Node):Int:=
 if eqI n.kind 1=true then n.value else if eqI n.kind 2=true then A4 vars n.value else N9 n.kind (A4 acc n.left) (A4 acc n.right)
def b9c (vars acc:List Int) (n:Node):Bool:=orB (O0 n.kind (A4 acc n.right)) (badV (Q9 vars acc n))
def evG (vars:List Int) (_:Nat) (acc:List Int) (n:Node):Unit ⊕ List Int:=if b9c vars acc n=true then .inl () else .inr (acc++[Q9 vars acc n])
def a3h (l:List Node) (vars:List Int):Option Int:=match O4 (evG vars) 0 [] l with | .inr acc=>some (A4 acc ((l.length:Int) - 1)) | .inl _=>none
section
variable (P:Program) (t:TypeId) (x y:Operand)
theorem f6q (k:IntKind) (a b:Int):D6 P (do eqGuard .mul t x y (.int k a) (.int k b); binOp .mul t (.int k a) (.int k b))=some (.int k (k.wrap (a*b))):=by cases k <;> rfl
theorem h4o:D6 P (do eqGuard .and t x y (.int .i64 0) (.int .i64 0); binOp .and t (.int .i64 0) (.int .i64 0))=some (.int .i64 0):=by rfl
theorem h4p:D6 P (do eqGuard .and t x y (.int .i64 0) (.int .i64 1); binOp .and t (.int .i64 0) (.int .i64 1))=some (.int .i64 0):=by rfl
theorem h4q:D6 P (do eqGuard .and t x y (.int .i64 1) (.int .i64 0); binOp .and t (.int .i64 1) (.int .i64 0))=some (.int .i64 0):=by rfl
theorem h4r:D6 P (do eqGuard .and t x y (.int .i64 1) (.int .i64 1); binOp .and t (.int .i64 1) (.int .i64 1))=some (.int .i64 1):=by rfl
theorem c7r (a b:Int) (h:b≠0):D6 P (do eqGuard .quo t x y (.int .i64 a) (.int .i64 b); binOp .quo t (.int .i64 a) (.int .i64 b))=some (.int .i64 (IntKind.i64.wrap (Int.tdiv a b))):=by
 unfold binOp
 simp [eqGuard,h,Op.intDiv]
 rfl
end
attribute [local simp] f6q h4o h4p h4q h4r
def kindN (l:List Node) (k:Int):Int:=match l[k.toNat]? with | some n=>n.kind | none=>0
structure ExprOk (l:List Node):Prop where
 pos:1≤l.length
 le:l.length≤16
 node:∀ (k:Nat) (n:Node),l[k]?=some n→nodeFaultM n (k:Nat)=0
 typ:∀ (k:Nat) (n:Node),l[k]?=some n→2 < n.kind→(partB (kindN l n.left)).2=(partB n.kind).1∧(n.kind≤9→(partB (kindN l n.right)).2=(partB n.kind).1)
theorem b7f {n:Node} {i:Int} (h:nodeFaultM n i=0):
  (n.kind=1∧0≤n.value∧n.value≤9999)∨(n.kind=2∧0≤n.value∧n.value≤3)∨(n.kind=10∧n.right=0∧0≤n.left∧n.left≤i - 1)∨
  (3≤n.kind∧n.kind≤9∧0≤n.left∧n.left≤i - 1∧0≤n.right∧n.right≤i - 1):=by
 unfold nodeFaultM at h
 by_cases h1:n.kind=1
 ·simp [h1,orB,eqI,B5,A0,inR,A1,leI] at h
  (repeat' split at h) <;> first | omega | simp at h
 by_cases h2:n.kind=2
 ·simp [h2,orB,eqI,B5,A0,inR,A1,leI] at h
  (repeat' split at h) <;> first | omega | simp at h
 by_cases h10:n.kind=10
 ·simp [h10,orB,eqI,B5,A0,inR,A1,leI] at h
  (repeat' split at h) <;> first | omega | simp at h
 by_cases h39:3≤n.kind∧n.kind≤9
 ·have e:inR n.kind 3 9=true:=by simp [inR,A1,leI]; exact h39
  simp only [e] at h
  simp [h1,h2,h10,orB,eqI,B5,A0,inR,A1,leI] at h
  (repeat' split at h) <;> first | omega | simp at h
 ·have e:inR n.kind 3 9=false:=by simp [inR,A1,leI]; omega
  simp [h1,h2,h10,e,orB,eqI] at h
def rkM (k a b:Int):Int × Bool:=if A1 (eqI k 6) (eqI b 0)=true then (0,false) else (N9 k a b,true)
theorem g1l {a b:Int} (ha1:-1000000≤a) (ha2:a≤1000000) (hb1:-1000000≤b) (hb2:b≤1000000):-1000000000000≤a*b∧a*b≤1000000000000:=by
 have h:(a*b).natAbs≤1000000*1000000:=by
  rw [Int.natAbs_mul]
  exact Nat.mul_le_mul (by omega) (by omega)
 omega
theorem f6r {a b:Int} (ha1:-1000000≤a) (ha2:a≤1000000):-1000000≤Int.tdiv a b∧Int.tdiv a b≤1000000:=by
 have h:(Int.tdiv a b).natAbs≤a.natAbs:=by rw [Int.natAbs_tdiv]; exact Nat.div_le_self _ _
 omega
theorem h4s (k a b:Int) (ha1:-1000000≤a) (ha2:a≤1000000) (hb1:-1000000≤b) (hb2:b≤1000000) (hk:3≤k∧k≤9) (h9:k=9→(a=0∨a=1)∧(b=0∨b=1)):
  fo 282 [A (vI k),A (vI a),A (vI b)]=some (R2 (vI (rkM k a b).1) (vB (rkM k a b).2)):=by
 have hm:=g1l ha1 ha2 hb1 hb2
 have hd:=f6r (b:=b) ha1 ha2
 have w1:IntKind.i64.wrap (a+b)=a+b:=by rw [A5] <;> omega
 have w2:IntKind.i64.wrap (a - b)=a - b:=by rw [A5] <;> omega
 have w3:IntKind.i64.wrap (a*b)=a*b:=by rw [A5] <;> omega
 have w4:IntKind.i64.wrap (Int.tdiv a b)=Int.tdiv a b:=by rw [A5] <;> omega
 refine i0f 1 ?_
 have e33:eqI 3 3=true:=rfl
 by_cases h3:k=3
 ·subst h3
  simp (maxSteps:=1000000) +contextual -dsimp [f282,w1,rkM,N9,B7,show eqI 3 6=false from rfl,A1]
 by_cases h4:k=4
 ·subst h4
  simp (maxSteps:=1000000) +contextual -dsimp [f282,w2,rkM,N9,B7,show eqI 4 6=false from rfl,show eqI 4 3=false from rfl,A1]
 by_cases h5:k=5
 ·subst h5
  simp (maxSteps:=1000000) +contextual -dsimp [f282,w3,rkM,N9,B7,show eqI 5 6=false from rfl,show eqI 5 3=false from rfl,show eqI 5 4=false from rfl,A1]
 by_cases h6:k=6
 ·subst h6
  by_cases hb:b=0
  ·subst hb
   simp (maxSteps:=1000000) +contextual -dsimp [f282,rkM,B7,show eqI 6 3=false from rfl,show eqI 6 4=false from rfl,show eqI 6 5=false from rfl,A1]
  ·have q:=c7r Tryz.prog 2 (.tmp 28) (.tmp 29) a b hb
   have hb':eqI b 0=false:=by simp [eqI,hb]
   simp (maxSteps:=1000000) +contextual -dsimp [f282,w4,q,hb',rkM,N9,B7,show eqI 6 3=false from rfl,show eqI 6 4=false from rfl,show eqI 6 5=false from rfl,A1]
 by_cases h7:k=7
 ·subst h7
  simp (maxSteps:=1000000) +contextual -dsimp [f282,O6,rkM,N9,B7,show eqI 7 6=false from rfl,show eqI 7 3=false from rfl,show eqI 7 4=false from rfl,show eqI 7 5=false from rfl,A1]
 by_cases h8:k=8
 ·subst h8
  simp (maxSteps:=1000000) +contextual -dsimp [f282,O6,rkM,N9,B7,show eqI 8 6=false from rfl,show eqI 8 3=false from rfl,show eqI 8 4=false from rfl,show eqI 8 5=false from rfl,show eqI 8 7=false from rfl,A1]
 have h:k=9:=by omega
 subst h
 obtain ⟨ha,hb⟩:=h9 rfl
 rcases ha with rfl | rfl <;> rcases hb with rfl | rfl <;>
 simp (maxSteps:=1000000) +contextual -dsimp [f282,rkM,N9,B7,show eqI 9 6=false from rfl,show eqI 9 3=false from rfl,show eqI 9 4=false from rfl,show eqI 9 5=false from rfl,show eqI 9 7=false from rfl,show eqI 9 8=false from rfl,A1]
end Go.TM.Ft
