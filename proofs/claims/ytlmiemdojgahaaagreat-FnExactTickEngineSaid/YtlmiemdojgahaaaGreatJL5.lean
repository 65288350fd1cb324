/- What functions of the program come to, by the machine. -/
import Derived.Test.YtlmiemdojgahaaaGreatJL4
set_option linter.unusedSimpArgs false
set_option linter.unusedVariables false
set_option maxHeartbeats 4000000
namespace Go.TM.Ft
open Go Go.TM Go.Proofs Go.Proofs.Tryz
set_option maxRecDepth 20000
attribute [local congr] K9
attribute [local simp] J8 K0 J0 J9 H3 J6 H4 G4 H5 G1
attribute [local simp] f0f g5m g5n g5o g5p
def kindN (l:List Node) (k:Int):Int:=match l[k.toNat]? with | some n=>n.kind | none=>0
structure ExprOk (l:List Node):Prop where
 pos:1≤l.length
 le:l.length≤16
 node:∀ (k:Nat) (n:Node),l[k]?=some n→nodeFaultM n (k:Nat)=0
 typ:∀ (k:Nat) (n:Node),l[k]?=some n→2 < n.kind→(partB (kindN l n.left)).2=(partB n.kind).1∧(n.kind≤9→(partB (kindN l n.right)).2=(partB n.kind).1)
theorem b5w {n:Node} {i:Int} (h:nodeFaultM n i=0):
  (n.kind=1∧0≤n.value∧n.value≤9999)∨(n.kind=2∧0≤n.value∧n.value≤3)∨(n.kind=10∧n.right=0∧0≤n.left∧n.left≤i - 1)∨
  (3≤n.kind∧n.kind≤9∧0≤n.left∧n.left≤i - 1∧0≤n.right∧n.right≤i - 1):=by
 unfold nodeFaultM at h
 by_cases h1:n.kind=1
 ·simp [h1,orB,eqI,C4,A0,inR,A2,leI] at h
  (repeat' split at h) <;> first | omega | simp at h
 by_cases h2:n.kind=2
 ·simp [h2,orB,eqI,C4,A0,inR,A2,leI] at h
  (repeat' split at h) <;> first | omega | simp at h
 by_cases h10:n.kind=10
 ·simp [h10,orB,eqI,C4,A0,inR,A2,leI] at h
  (repeat' split at h) <;> first | omega | simp at h
 by_cases h39:3≤n.kind∧n.kind≤9
 ·have e:inR n.kind 3 9=true:=by simp [inR,A2,leI]; exact h39
  simp only [e] at h
  simp [h1,h2,h10,orB,eqI,C4,A0,inR,A2,leI] at h
  (repeat' split at h) <;> first | omega | simp at h
 ·have e:inR n.kind 3 9=false:=by simp [inR,A2,leI]; omega
  simp [h1,h2,h10,e,orB,eqI] at h
def rkM (k a b:Int):Int × Bool:=if A2 (eqI k 6) (eqI b 0)=true then (0,false) else (M8 k a b,true)
theorem f4a {a b:Int} (ha1:-1000000≤a) (ha2:a≤1000000) (hb1:-1000000≤b) (hb2:b≤1000000):-1000000000000≤a*b∧a*b≤1000000000000:=by
 have h:(a*b).natAbs≤1000000*1000000:=by
  rw [Int.natAbs_mul]
  exact Nat.mul_le_mul (by omega) (by omega)
 omega
theorem f0g {a b:Int} (ha1:-1000000≤a) (ha2:a≤1000000):-1000000≤Int.tdiv a b∧Int.tdiv a b≤1000000:=by
 have h:(Int.tdiv a b).natAbs≤a.natAbs:=by rw [Int.natAbs_tdiv]; exact Nat.div_le_self _ _
 omega
theorem g5q (k a b:Int) (ha1:-1000000≤a) (ha2:a≤1000000) (hb1:-1000000≤b) (hb2:b≤1000000) (hk:3≤k∧k≤9) (h9:k=9→(a=0∨a=1)∧(b=0∨b=1)):
  fo 282 [A (vI k),A (vI a),A (vI b)]=some (R2 (vI (rkM k a b).1) (vB (rkM k a b).2)):=by
 have hm:=f4a ha1 ha2 hb1 hb2
 have hd:=f0g (b:=b) ha1 ha2
 have w1:IntKind.i64.wrap (a+b)=a+b:=by rw [A6] <;> omega
 have w2:IntKind.i64.wrap (a - b)=a - b:=by rw [A6] <;> omega
 have w3:IntKind.i64.wrap (a*b)=a*b:=by rw [A6] <;> omega
 have w4:IntKind.i64.wrap (Int.tdiv a b)=Int.tdiv a b:=by rw [A6] <;> omega
 refine h0m 1 ?_
 have e33:eqI 3 3=true:=rfl
 by_cases h3:k=3
 ·subst h3
  simp (maxSteps:=1000000) +contextual -dsimp [f282,w1,rkM,M8,C1,show eqI 3 6=false from rfl,A2]
 by_cases h4:k=4
 ·subst h4
  simp (maxSteps:=1000000) +contextual -dsimp [f282,w2,rkM,M8,C1,show eqI 4 6=false from rfl,show eqI 4 3=false from rfl,A2]
 by_cases h5:k=5
 ·subst h5
  simp (maxSteps:=1000000) +contextual -dsimp [f282,w3,rkM,M8,C1,show eqI 5 6=false from rfl,show eqI 5 3=false from rfl,show eqI 5 4=false from rfl,A2]
 by_cases h6:k=6
 ·subst h6
  by_cases hb:b=0
  ·subst hb
   simp (maxSteps:=1000000) +contextual -dsimp [f282,rkM,C1,show eqI 6 3=false from rfl,show eqI 6 4=false from rfl,show eqI 6 5=false from rfl,A2]
  ·have q:=c4w Tryz.prog 2 (.tmp 28) (.tmp 29) a b hb
   have hb':eqI b 0=false:=by simp [eqI,hb]
   simp (maxSteps:=1000000) +contextual -dsimp [f282,w4,q,hb',rkM,M8,C1,show eqI 6 3=false from rfl,show eqI 6 4=false from rfl,show eqI 6 5=false from rfl,A2]
 by_cases h7:k=7
 ·subst h7
  simp (maxSteps:=1000000) +contextual -dsimp [f282,P5,rkM,M8,C1,show eqI 7 6=false from rfl,show eqI 7 3=false from rfl,show eqI 7 4=false from rfl,show eqI 7 5=false from rfl,A2]
 by_cases h8:k=8
 ·subst h8
  simp (maxSteps:=1000000) +contextual -dsimp [f282,P5,rkM,M8,C1,show eqI 8 6=false from rfl,show eqI 8 3=false from rfl,show eqI 8 4=false from rfl,show eqI 8 5=false from rfl,show eqI 8 7=false from rfl,A2]
 have h:k=9:=by omega
 subst h
 obtain ⟨ha,hb⟩:=h9 rfl
 rcases ha with rfl | rfl <;> rcases hb with rfl | rfl <;>
 simp (maxSteps:=1000000) +contextual -dsimp [f282,rkM,M8,C1,show eqI 9 6=false from rfl,show eqI 9 3=false from rfl,show eqI 9 4=false from rfl,show eqI 9 5=false from rfl,show eqI 9 7=false from rfl,show eqI 9 8=false from rfl,A2]
end Go.TM.Ft
namespace Go.TM.Ft
open Go Go.TM Go.Proofs Go.Proofs.Tryz
set_option maxRecDepth 20000
attribute [local congr] K9
attribute [local simp] J8 K0 J0 J9 H3 J6 H4 G4 H5 G1
theorem K4 {l:List Int} {k:Nat} (h:k < l.length):A3 l (k:Int)=l[k]:=a1a h
theorem g5r {l:List Node} {k:Nat} {n:Node} (h:l[k]?=some n):kindN l (k:Int)=n.kind:=by simp [kindN,h]
structure Vals (l:List Node) (i:Nat) (acc:List Int):Prop where
 len:acc.length=i
 rng:∀ (k:Nat) (h:k < acc.length),-1000000≤acc[k]∧acc[k]≤1000000
 bool:∀ (k:Nat) (h:k < acc.length),(partB (kindN l (k:Int))).2=2→acc[k]=0∨acc[k]=1
theorem h4h {v:Int} (h:badV v=false):-1000000≤v∧v≤1000000:=by
 unfold badV at h
 have:inR v (-1000000) 1000000=true:=by cases e:inR v (-1000000) 1000000 <;> simp [A0,e] at h ⊢
 simp [inR,A2,leI] at this
 exact this
theorem f0h (a b:Int):M8 10 a b=1 - a:=rfl
theorem g2c {k:Int} (h:(partB k).2=2):7≤k:=by
 unfold partB at h
 simp [leI] at h
 split at h
 ·simp at h
 ·omega
theorem Vals.next {l:List Node} (ok:ExprOk l) {i:Nat} {acc vars:List Int} (h:Vals l i acc) (hi:i < l.length) (hb:badV (P3 vars acc l[i])=false):Vals l (i+1) (acc++[P3 vars acc l[i]]):=by
 have hl:=h.len
 refine ⟨by simp [hl],fun k hk=>?_,fun k hk=>?_⟩
 ·simp at hk
  rcases Nat.lt_or_ge k acc.length with h' | h'
  ·rw [List.getElem_append_left h']; exact h.rng k h'
  ·have e:k=acc.length:=by omega
   subst e
   simp; exact h4h hb
 ·intro hp
  simp at hk
  rcases Nat.lt_or_ge k acc.length with h' | h'
  ·rw [List.getElem_append_left h']; exact h.bool k h' hp
  ·have e:k=i:=by omega
   subst e
   have hn:l[k]?=some l[k]:=List.getElem?_eq_getElem hi
   rw [g5r hn] at hp
   have h7:=g2c hp
   have hval:P3 vars acc l[k]=M8 (l[k]).kind (A3 acc (l[k]).left) (A3 acc (l[k]).right):=by
    unfold P3
    rw [if_neg (by simp [eqI]; omega),if_neg (by simp [eqI]; omega)]
   have e:(acc++[P3 vars acc l[k]])[k]'(by simp; omega)=P3 vars acc l[k]:=by
    rw [List.getElem_append_right (by omega)]; simp
   rw [e,hval]
   have bl:∀ x:Int,0≤x→x≤(k:Int) - 1→(partB (kindN l x)).2=2→A3 acc x=0∨A3 acc x=1:=by
    intro x h0 h1 h2
    obtain ⟨y,rfl⟩:=Int.eq_ofNat_of_zero_le h0
    rw [K4 (by omega)]
    exact h.bool y (by omega) h2
   rcases b5w (ok.node k _ hn) with q | q | q | q
   ·omega
   ·omega
   ·rw [q.1,f0h]
    have t:=(ok.typ k _ hn (by omega)).1
    rw [q.1] at t
    rcases bl _ q.2.2.1 q.2.2.2 t with e | e <;> rw [e] <;> simp
   ·by_cases k7:(l[k]).kind=7
    ·rw [k7]; simpa [M8,eqI] using f4z _
    by_cases k8:(l[k]).kind=8
    ·rw [k8]; simpa [M8,eqI] using f4z _
    have k9:(l[k]).kind=9:=by omega
    have t:=ok.typ k _ hn (by omega)
    rw [k9] at t ⊢
    have b1:=bl _ q.2.2.1 q.2.2.2.1 t.1
    have b2:=bl _ q.2.2.2.2.1 q.2.2.2.2.2 (t.2 (by omega))
    rcases b1 with e | e <;> rcases b2 with e2 | e2 <;> rw [e,e2] <;> simp [M8,eqI]
abbrev evS (l:List Node) (vars:List Int) (i:Nat) (acc:List Int):St:=
 ⟨77,[(1,iS vars),(6,.ref 6 1 [] 0 acc.length),(12,nS 219 l),(13,vI l.length),(14,vI i)],[(6,⟨1,1,false,[.own 2 (iE acc)]⟩)],2⟩
theorem h5n (l:List Node) (ok:ExprOk l) (vars:List Int) (hv:vars.length=4):
  b1b 0 (fun acc=>⟨77,[(1,iS vars),(6,.ref 6 1 [] 0 acc.length),(12,nS 219 l),(13,vI l.length),(14,vI l.length),(15,vB false)],[(6,⟨1,1,false,[.own 2 (iE acc)]⟩)],2⟩)
   (fun _ st=>∃ rt,st=⟨77,[(4,vI 0),(5,vB false)],rt,2⟩) (A5 E (orc E) (238:Nat) (l.length+1) (B3 f238 0) (evS l vars 0 [])) (U4 (evG vars) 0 [] l):=by
 have hle:=ok.le
 refine b3p (f:=238) (id:=0) (code:=B3 f238 0) l (Vals l) (evS l vars) (evG vars) _ _ ?_ ?_ l 0 [] rfl (Nat.zero_le _) ⟨rfl,fun k h=>by simp at h,fun k h=>by simp at h⟩
 ·intro k s _
  have hlt:=a2m l.length
  simp +contextual -dsimp [f238,hlt]
 ·intro k i acc hi hI
  have hn:l[i]?=some l[i]:=List.getElem?_eq_getElem hi
  have hal:=hI.len
  have hlt:=O4 hi
  have hw:=N6 hi (by omega)
  have hm1:acc.length+1≤B9:=by unfold B9; omega
  unfold evG b7k
  generalize hc:l[i]=n at *
  have nk:=b5w (ok.node i n hn)
  have nx:badV (P3 vars acc n)=false→Vals l (i+1) (acc++[P3 vars acc n]):=fun hb=>by
   have:=hI.next ok hi (vars:=vars)
   rw [hc] at this
   exact this hb
  generalize hnv:P3 vars acc n=v at *
  have hin:inR v (-1000000) 1000000=A0 (badV v):=by simp [badV,A0]
  by_cases k1:n.kind=1
  ·have ev:v=n.value:=by rw [← hnv]; simp [P3,k1,eqI]
   have ez:M9 n.kind (A3 acc n.right)=false:=by simp [M9,k1,eqI,A2]
   rw [← ev] at nk
   cases hb:badV v
   ·refine ⟨fun s' hs=>?_,fun e he=>by simp [ez,hb,orB] at he⟩
    simp [ez,hb,orB] at hs
    subst hs
    refine ⟨?_,nx hb⟩
    rw [hb] at hin
    simp (maxSteps:=1000000) +contextual -dsimp [f238,D7,a2g,hlt,hi,hc,hw,hm1,k1,← ev,hin,show eqI 1 2=false from rfl,show eqI 1 10=false from rfl,show inR 1 3 9=false from rfl,List.set]
   ·exfalso
    simp [badV,A0,inR,A2,leI] at hb
    omega
  by_cases k2:n.kind=2
  ·obtain ⟨m,hm⟩:=Int.eq_ofNat_of_zero_le (show 0≤n.value by omega)
   have hml:m < vars.length:=by omega
   have ev:v=vars[m]:=by rw [← hnv]; unfold P3; rw [if_neg (by simp [k2,eqI]),if_pos (by simp [k2,eqI]),hm,K4 hml]
   have ez:M9 n.kind (A3 acc n.right)=false:=by simp [M9,k2,eqI,A2]
   cases hb:badV v
   ·refine ⟨fun s' hs=>?_,fun e he=>by simp [ez,hb,orB] at he⟩
    simp [ez,hb,orB] at hs
    subst hs
    refine ⟨?_,nx hb⟩
    rw [hb] at hin
    simp (maxSteps:=1000000) +contextual -dsimp [f238,D7,a2g,hlt,hi,hc,hw,hm1,k2,hm,hml,← ev,hin,C1,List.set]
   ·refine ⟨fun s' hs=>by simp [hb,orB] at hs,fun e he=>⟨_,?_,[(6,⟨1,1,false,[.own 2 (iE acc)]⟩)],rfl⟩⟩
    rw [hb] at hin
    simp (maxSteps:=1000000) +contextual -dsimp [f238,D7,a2g,hlt,hi,hc,hw,hm1,k2,hm,hml,← ev,hin,C1,List.set]
  by_cases k10:n.kind=10
  ·obtain ⟨m,hm⟩:=Int.eq_ofNat_of_zero_le (show 0≤n.left by omega)
   have hml:m < acc.length:=by omega
   have hr:=hI.rng m hml
   have hw2:IntKind.i64.wrap (1 - acc[m])=1 - acc[m]:=by rw [A6] <;> omega
   have ev:v=1 - acc[m]:=by rw [← hnv]; unfold P3; rw [if_neg (by simp [k10,eqI]),if_neg (by simp [k10,eqI]),k10,f0h,hm,K4 hml]
   rw [← ev] at hw2
   have ez:M9 n.kind (A3 acc n.right)=false:=by simp [M9,k10,eqI,A2]
   cases hb:badV v
   ·refine ⟨fun s' hs=>?_,fun e he=>by simp [ez,hb,orB] at he⟩
    simp [ez,hb,orB] at hs
    subst hs
    refine ⟨?_,nx hb⟩
    rw [hb] at hin
    simp (maxSteps:=1000000) +contextual -dsimp [f238,D7,a2g,hlt,hi,hc,hw,hm1,k10,hm,hml,← ev,hw2,hin,C1,show eqI 10 2=false from rfl,List.set]
   ·refine ⟨fun s' hs=>by simp [hb,orB] at hs,fun e he=>⟨_,?_,[(6,⟨1,1,false,[.own 2 (iE acc)]⟩)],rfl⟩⟩
    rw [hb] at hin
    simp (maxSteps:=1000000) +contextual -dsimp [f238,D7,a2g,hlt,hi,hc,hw,hm1,k10,hm,hml,← ev,hw2,hin,C1,show eqI 10 2=false from rfl,List.set]
  have k39:3≤n.kind∧n.kind≤9:=by omega
  obtain ⟨a,ha⟩:=Int.eq_ofNat_of_zero_le (show 0≤n.left by omega)
  obtain ⟨b,hb⟩:=Int.eq_ofNat_of_zero_le (show 0≤n.right by omega)
  have hal2:a < acc.length:=by omega
  have hbl2:b < acc.length:=by omega
  have ra:=hI.rng a hal2
  have rb:=hI.rng b hbl2
  have hk39:inR n.kind 3 9=true:=by simp [inR,A2,leI]; exact k39
  have e2:eqI n.kind 2=false:=by simp [eqI]; omega
  have e10:eqI n.kind 10=false:=by simp [eqI]; omega
  have ev:v=M8 n.kind acc[a] acc[b]:=by rw [← hnv]; unfold P3; rw [if_neg (by simp [eqI]; omega),if_neg (by simp [eqI]; omega),ha,hb,K4 hal2,K4 hbl2]
  have ez:M9 n.kind (A3 acc n.right)=A2 (eqI n.kind 6) (eqI acc[b] 0):=by rw [hb,K4 hbl2]; rfl
  have g:=g5q n.kind acc[a] acc[b] ra.1 ra.2 rb.1 rb.2 k39 (fun h9=>by
   have t:=ok.typ i n hn (by omega)
   rw [h9,ha,hb] at t
   exact ⟨hI.bool a hal2 t.1,hI.bool b hbl2 (t.2 (by omega))⟩)
  unfold rkM at g
  rw [← ev,← ez] at g
  cases hz:M9 n.kind (A3 acc n.right)
  ·rw [hz,if_neg (by simp)] at g
   cases hbv:badV v
   ·refine ⟨fun s' hs=>?_,fun e he=>by simp [hbv,orB] at he⟩
    simp [hbv,orB] at hs
    subst hs
    refine ⟨?_,nx hbv⟩
    rw [hbv] at hin
    simp (maxSteps:=1000000) +contextual -dsimp [f238,D7,a2g,hlt,hi,hc,hw,hm1,ha,hb,hal2,hbl2,e2,e10,hk39,g,hin,List.set]
   ·refine ⟨fun s' hs=>by simp [hbv,orB] at hs,fun e he=>⟨_,?_,[(6,⟨1,1,false,[.own 2 (iE acc)]⟩)],rfl⟩⟩
    rw [hbv] at hin
    simp (maxSteps:=1000000) +contextual -dsimp [f238,D7,a2g,hlt,hi,hc,hw,hm1,ha,hb,hal2,hbl2,e2,e10,hk39,g,hin,List.set]
  ·rw [hz,if_pos rfl] at g
   refine ⟨fun s' hs=>by simp [orB] at hs,fun e he=>⟨_,?_,[(6,⟨1,1,false,[.own 2 (iE acc)]⟩)],rfl⟩⟩
   simp (maxSteps:=1000000) +contextual -dsimp [f238,D7,a2g,hlt,hi,hc,hw,hm1,ha,hb,hal2,hbl2,e2,e10,hk39,g,List.set]
def RE (o:Option Int):Res:=match o with | some v=>R2 (vI v) (vB true) | none=>R2 (vI 0) (vB false)
theorem b8d {vars:List Int}:∀ {l:List Node} {i:Nat} {acc a:List Int},U4 (evG vars) i acc l=.inr a→a.length=acc.length+l.length
 | [],i,acc,a,h=>by simp only [U4,Sum.inr.injEq] at h; subst h; rfl
 | n::l,i,acc,a,h=>by
  unfold U4 evG at h
  split at h
  ·rename_i s hs
   split at hs
   ·simp at hs
   ·simp only [Sum.inr.injEq] at hs; subst hs
    rw [b8d h]; simp; omega
  ·simp at h
theorem f0i {vars:List Int}:∀ {l:List Node} {i:Nat} {acc a:List Int},(∀ x,x∈acc→badV x=false)→U4 (evG vars) i acc l=.inr a→∀ x,x∈a→badV x=false
 | [],i,acc,a,h0,h=>by simp only [U4,Sum.inr.injEq] at h; subst h; exact h0
 | n::l,i,acc,a,h0,h=>by
  unfold U4 evG at h
  split at h
  ·rename_i s hs
   split at hs
   ·simp at hs
   ·rename_i hb
    simp only [Sum.inr.injEq] at hs; subst hs
    refine f0i (fun x hx=>?_) h
    rcases List.mem_append.1 hx with hx | hx
    ·exact h0 x hx
    ·rw [List.mem_singleton.1 hx]
     cases q:badV (P3 vars acc n)
     ·rfl
     ·simp [b7k,q,orB] at hb
  ·simp at h
theorem c1p {l:List Node} (ok:ExprOk l) {vars:List Int} {v:Int} (h:a3e l vars=some v):badV v=false:=by
 unfold a3e at h
 split at h
 ·rename_i acc hq
  simp only [Option.some.injEq] at h
  subst h
  have hl:=b8d hq
  have hp:=ok.pos
  simp at hl
  have e:((l.length:Int) - 1)=((l.length - 1:Nat):Int):=by omega
  rw [e,K4 (by omega)]
  exact f0i (by simp) hq _ (List.getElem_mem _)
 ·simp at h
theorem f4b (l:List Node) (ok:ExprOk l) (vars:List Int) (hv:vars.length=4):fo 238 [A (nS 219 l),A (iS vars)]=some (RE (a3e l vars)):=by
 have hlp:=h5n l ok vars hv
 have hpos:=ok.pos
 have hle:=ok.le
 refine g9i (l.length+1) ?_
 unfold a3e
 cases q:U4 (evG vars) 0 [] l with
 | inl e=>
  rw [q] at hlp
  obtain ⟨_,hlp,rt,rfl⟩:=hlp
  simp -dsimp [f238,evS,iE] at hlp
  simp (maxSteps:=1000000) +contextual -dsimp [f238,hlp,RE,List.set]
 | inr acc=>
  rw [q] at hlp
  unfold b1b at hlp
  simp -dsimp [f238,evS,iE] at hlp
  have hlen:=b8d q
  simp at hlen
  have hlt:l.length - 1 < acc.length:=by omega
  have hw:IntKind.i64.wrap ((acc.length:Int) - 1)=((l.length - 1:Nat):Int):=by rw [A6] <;> omega
  have e1:A3 acc ((l.length:Int) - 1)=acc[l.length - 1]:=by
   have:((l.length:Int) - 1)=((l.length - 1:Nat):Int):=by omega
   rw [this,K4 hlt]
  simp (maxSteps:=1000000) +contextual -dsimp [f238,hlp,hw,hlt,e1,RE,List.set]
end Go.TM.Ft
namespace Go.TM.Ft
theorem c1q (n:Node) (i:Int):a2t n i=nodeFaultM n i:=by
 unfold a2t nodeFaultM C4
 by_cases h1:n.kind=1
 ·simp only [h1]; simp (config:={decide:=true}) only [orB,A2,A0,eqI,leI,inR]
  by_cases a:n.left=0 <;> by_cases b:n.right=0 <;> by_cases c:0≤n.value <;> by_cases d:n.value≤9999 <;> simp [a,b,c,d]
 by_cases h2:n.kind=2
 ·simp only [h2]; simp (config:={decide:=true}) only [orB,A2,A0,eqI,leI,inR]
  by_cases a:n.left=0 <;> by_cases b:n.right=0 <;> by_cases c:0≤n.value <;> by_cases d:n.value≤3 <;> simp [a,b,c,d]
 by_cases h10:n.kind=10
 ·simp only [h10]; simp (config:={decide:=true}) only [orB,A2,A0,eqI,leI,inR]
  by_cases a:n.value=0 <;> by_cases b:n.right=0 <;> by_cases c:0≤n.left <;> by_cases d:n.left≤i - 1 <;> simp [a,b,c,d]
 by_cases h3:3≤n.kind∧n.kind≤9
 ·obtain ⟨h3,h9⟩:=h3
  have e1:1≤n.kind:=by omega
  have e2:n.kind≤10:=by omega
  have e3:¬ n.kind≤2:=by omega
  simp (config:={decide:=true}) only [orB,A2,A0,eqI,leI,inR]
  by_cases a:n.value=0 <;> by_cases c:0≤n.left <;> by_cases d:n.left≤i - 1 <;> by_cases c2:0≤n.right <;> by_cases d2:n.right≤i - 1 <;> simp [a,c,d,c2,d2,h1,h2,h3,h9,h10,e1,e2,e3]
 ·have:¬ (1≤n.kind∧n.kind≤10):=by omega
  simp [orB,A2,A0,eqI,leI,inR,h1,h2,h10,h3,this]
theorem d1d:∀ (l:List Node) (i:Nat),a0d i l=M4 i l
 | [],_=>rfl
 | n::l,i=>by
  simp only [a0d,M4,c1q,d1d l]
def post (l:List Node):Nat→Nat→List Int
 | 0,_=>[]
 | f+1,at_=>
  match l[at_]? with
  | none=>[]
  | some n=>
   if ltI 2 n.kind=true then
    (if inR n.kind 3 9=true then post l f n.left.toNat++post l f n.right.toNat else post l f n.left.toNat)++[(at_:Int)]
   else [(at_:Int)]
theorem b6i (l:List Node):∀ (f at_:Nat) (out:List Int),out.length≤(J7 l f at_ out).length
 | 0,_,out=>by simp [J7]
 | f+1,at_,out=>by
  unfold J7
  split
  ·exact Nat.le_refl _
  ·rename_i n hn
   have h1:=b6i l f n.left.toNat out
   have h2:=b6i l f n.right.toNat (J7 l f n.left.toNat out)
   split
   ·exact Nat.le_refl _
   ·split
    ·split
     ·simp; omega
     ·simp; omega
    ·simp
theorem b5x (l:List Node):∀ (f at_:Nat) (out:List Int),(J7 l f at_ out).length≤16→J7 l f at_ out=out++post l f at_
 | 0,_,out,_=>by simp [J7,post]
 | f+1,at_,out,h=>by
  have hm:=b6i l (f+1) at_ out
  cases hn:l[at_]? with
  | none=>simp [J7,post,hn]
  | some n=>
   have ho:ltI 16 out.length=false:=by simp [ltI]; omega
   simp only [J7,post,hn,ho,Bool.false_eq_true,if_false] at h ⊢
   cases c:ltI 2 n.kind
   ·simp
   ·simp only [c,if_true] at h ⊢
    cases d:inR n.kind 3 9
    ·simp only [d,Bool.false_eq_true,if_false] at h ⊢
     simp at h
     rw [b5x l f _ _ (by omega),List.append_assoc]
    ·simp only [d,if_true] at h ⊢
     simp at h
     have h2:=b6i l f n.right.toNat (J7 l f n.left.toNat out)
     rw [b5x l f n.right.toNat _ (by omega),b5x l f n.left.toNat out (by omega)]
     simp
theorem b6j (l:List Node):∀ (f at_:Nat) (out:List Int),out.length+(post l f at_).length≤17→J7 l f at_ out=out++post l f at_
 | 0,_,out,_=>by simp [J7,post]
 | f+1,at_,out,h=>by
  cases hn:l[at_]? with
  | none=>simp [J7,post,hn]
  | some n=>
   simp only [J7,post,hn] at h ⊢
   cases c:ltI 2 n.kind
   ·simp only [c,Bool.false_eq_true,if_false] at h ⊢
    simp at h
    have ho:ltI 16 out.length=false:=by simp [ltI]; omega
    simp [ho]
   ·simp only [c,if_true] at h ⊢
    have ho:ltI 16 out.length=false:=by simp at h; simp [ltI]; omega
    simp only [ho,Bool.false_eq_true,if_false]
    cases d:inR n.kind 3 9
    ·simp only [d,Bool.false_eq_true,if_false] at h ⊢
     simp at h
     rw [b6j l f _ _ (by omega),List.append_assoc]
    ·simp only [d,if_true] at h ⊢
     simp at h
     rw [b6j l f n.left.toNat out (by omega),b6j l f n.right.toNat _ (by simp; omega)]
     simp
theorem b3q {l:List Node} (hg:a4t l):∀ (f g at_:Nat),at_ < f→at_ < g→post l f at_=post l g at_
 | 0,_,_,h,_=>by omega
 | f+1,0,_,_,h=>by omega
 | f+1,g+1,at_,h1,h2=>by
  unfold post
  split
  ·rfl
  ·rename_i n hn
   obtain ⟨hk,he⟩:=List.getElem?_eq_some_iff.1 hn
   obtain ⟨gl,gr⟩:=hg at_ hk
   rw [he] at gl gr
   cases c:ltI 2 n.kind
   ·simp
   ·have gl:=gl c
    simp only [if_true]
    rw [b3q hg f g n.left.toNat (by omega) (by omega)]
    cases d:inR n.kind 3 9
    ·simp
    ·have gr:=gr d
     simp only [if_true]
     rw [b3q hg f g n.right.toNat (by omega) (by omega)]
def Run (a:Int) (L:List Int):Prop:=∀ (p:Nat) (v:Int),L[p]?=some v→v=a+p
theorem b9t:∀ (L:List Int) (i:Nat),a2u i L=true ↔ Run i L
 | [],i=>by simp [a2u,Run]
 | x::L,i=>by
  have ih:=b9t L (i+1)
  unfold a2u
  constructor
  ·intro h p v hp
   split at h
   ·rename_i c
    cases p with
    | zero=>simp [eqI] at c hp; omega
    | succ p=>
     have:=(ih.1 h) p v (by simpa using hp)
     simp at this ⊢; omega
   ·simp at h
  ·intro h
   have h0:x=i:=by simpa using h 0 x (by simp)
   rw [if_pos (by simp [eqI,h0])]
   refine ih.2 fun p v hp=>?_
   have:=h (p+1) v (by simpa using hp)
   simp at this ⊢; omega
theorem c4x {a:Int} {X Y:List Int} (h1:Run a X) (h2:Run (a+X.length) Y):Run a (X++Y):=by
 intro p v hp
 rw [List.getElem?_append] at hp
 split at hp
 ·exact h1 p v hp
 ·have:=h2 _ v hp; omega
theorem b6w {a:Int} {X Y:List Int} (h:Run a (X++Y)):Run a X:=fun p v hp=>h p v (by
 obtain ⟨hl,_⟩:=List.getElem?_eq_some_iff.1 hp
 rw [List.getElem?_append_left hl]; exact hp)
theorem a9u {a:Int} {X Y:List Int} (h:Run a (X++Y)):Run (a+X.length) Y:=fun p v hp=>by
 have:=h (X.length+p) v (by rw [List.getElem?_append_right (by omega)]; simpa using hp)
 simp at this; omega
theorem c4y (a:Int):Run a [a]:=fun p v hp=>by
 cases p with
 | zero=>simp at hp; simp [hp]
 | succ p=>simp at hp
theorem b4q {a b:Int} (h:Run a [b]):b=a:=by simpa using h 0 b (by simp)
def sz (l:List Node) (k:Nat):Int:=(post l (k+1) k).length
def okk (l:List Node) (k:Nat):Prop:=∀ n,l[k]?=some n→
 (eqI n.kind 10=true→n.left=k - 1)∧(eqI n.kind 10=false→inR n.kind 3 9=true→n.right=k - 1∧n.left=k - 1 - sz l n.right.toNat)
theorem b4e {l:List Node} (hg:a4t l) {k:Nat} {n:Node} (h:l[k]?=some n):post l (k+1) k=
  if ltI 2 n.kind=true then
    (if inR n.kind 3 9=true then post l (n.left.toNat+1) n.left.toNat++post l (n.right.toNat+1) n.right.toNat else post l (n.left.toNat+1) n.left.toNat)++[(k:Int)]
   else [(k:Int)]:=by
 obtain ⟨hk,he⟩:=List.getElem?_eq_some_iff.1 h
 obtain ⟨gl,gr⟩:=hg k hk
 rw [he] at gl gr
 conv=>lhs; unfold post
 rw [h]
 simp only
 cases c:ltI 2 n.kind
 ·simp
 ·have gl:=gl c
  simp only [if_true]
  rw [b3q hg k (n.left.toNat+1) n.left.toNat (by omega) (by omega)]
  cases d:inR n.kind 3 9
  ·simp
  ·have gr:=gr d
   simp only [if_true]
   rw [b3q hg k (n.right.toNat+1) n.right.toNat (by omega) (by omega)]
theorem c6s {n:Node} {i:Int} (h:nodeFaultM n i=0) (c:ltI 2 n.kind=true):(eqI n.kind 10=true∧inR n.kind 3 9=false)∨(eqI n.kind 10=false∧inR n.kind 3 9=true):=by
 have:2 < n.kind:=by simpa [ltI] using c
 by_cases a:n.kind=10
 ·left; simp [eqI,inR,A2,leI,a]
 ·by_cases b:inR n.kind 3 9=true
  ·right; exact ⟨by simp [eqI,a],b⟩
  ·exfalso
   unfold nodeFaultM at h
   rw [if_neg (by simp [orB,eqI]; omega),if_neg (by simp [eqI,a]),if_neg b] at h
   simp at h
theorem b8e {l:List Node} (hg:a4t l) (hf:∀ k n,l[k]?=some n→nodeFaultM n (k:Nat)=0) (ho:∀ k,k < l.length→okk l k):∀ (m k:Nat),k < m→k < l.length→Run (k+1 - sz l k) (post l (k+1) k)
 | 0,_,h,_=>by omega
 | m+1,k,h,hk=>by
  have hn:l[k]?=some l[k]:=by simp [hk]
  obtain ⟨o1,o2⟩:=ho k hk _ hn
  obtain ⟨gl,gr⟩:=hg k hk
  have hs:sz l k=(post l (k+1) k).length:=rfl
  have hp:=b4e hg hn
  cases c:ltI 2 (l[k]).kind
  ·rw [c] at hp
   simp at hp
   rw [hs,hp]
   have:=c4y k
   simpa using this
  ·have gl:=gl c
   rw [c] at hp
   simp only [if_true] at hp
   rcases c6s (hf k _ hn) c with ⟨d,e⟩ | ⟨d,e⟩
   ·have o1:=o1 d
    rw [e] at hp
    simp only [Bool.false_eq_true,if_false] at hp
    have ih:=b8e hg hf ho m (l[k]).left.toNat (by omega) (by omega)
    have hs1:sz l (l[k]).left.toNat=(post l ((l[k]).left.toNat+1) (l[k]).left.toNat).length:=rfl
    have hs2:sz l k=sz l (l[k]).left.toNat+1:=by rw [hs,hp,hs1]; simp
    rw [hp]
    refine c4x ?_ ?_
    ·have e1:(k:Int)+1 - sz l k=((l[k]).left.toNat:Nat)+1 - sz l (l[k]).left.toNat:=by omega
     rw [e1]; exact ih
    ·have e1:(k:Int)+1 - sz l k+(post l ((l[k]).left.toNat+1) (l[k]).left.toNat).length=k:=by omega
     rw [e1]; exact c4y _
   ·obtain ⟨o3,o4⟩:=o2 d e
    have gr:=gr e
    rw [e] at hp
    simp only [if_true] at hp
    have ih1:=b8e hg hf ho m (l[k]).left.toNat (by omega) (by omega)
    have ih2:=b8e hg hf ho m (l[k]).right.toNat (by omega) (by omega)
    have hs1:sz l (l[k]).left.toNat=(post l ((l[k]).left.toNat+1) (l[k]).left.toNat).length:=rfl
    have hs3:sz l (l[k]).right.toNat=(post l ((l[k]).right.toNat+1) (l[k]).right.toNat).length:=rfl
    have hs2:sz l k=sz l (l[k]).left.toNat+sz l (l[k]).right.toNat+1:=by rw [hs,hp,hs1,hs3]; simp; omega
    rw [hp]
    refine c4x (c4x ?_ ?_) ?_
    ·have e1:(k:Int)+1 - sz l k=((l[k]).left.toNat:Nat)+1 - sz l (l[k]).left.toNat:=by omega
     rw [e1]; exact ih1
    ·have e1:(k:Int)+1 - sz l k+(post l ((l[k]).left.toNat+1) (l[k]).left.toNat).length=((l[k]).right.toNat:Nat)+1 - sz l (l[k]).right.toNat:=by omega
     rw [e1]; exact ih2
    ·have e1:(k:Int)+1 - sz l k+((post l ((l[k]).left.toNat+1) (l[k]).left.toNat++post l ((l[k]).right.toNat+1) (l[k]).right.toNat).length:Nat)=k:=by
      rw [List.length_append]; omega
     rw [e1]; exact c4y _
theorem c1r {l:List Node} (hg:a4t l) {k:Nat} (hk:k < l.length):∃ X,post l (k+1) k=X++[(k:Int)]:=by
 have hn:l[k]?=some l[k]:=by simp [hk]
 rw [b4e hg hn]
 split
 ·split
  ·exact ⟨_,rfl⟩
  ·exact ⟨_,rfl⟩
 ·exact ⟨[],rfl⟩
theorem b6x {l:List Node} (hg:a4t l) (hf:∀ k n,l[k]?=some n→nodeFaultM n (k:Nat)=0):∀ (m k j:Nat),k < m→k < l.length→(j:Int)∈post l (k+1) k→∃ A B,post l (k+1) k=A++post l (j+1) j++B
 | 0,_,_,h,_,_=>by omega
 | m+1,k,j,h,hk,hj=>by
  have hn:l[k]?=some l[k]:=by simp [hk]
  obtain ⟨gl,gr⟩:=hg k hk
  have hp:=b4e hg hn
  by_cases e:j=k
  ·subst e; exact ⟨[],[],by simp⟩
  cases c:ltI 2 (l[k]).kind
  ·rw [c] at hp
   simp at hp
   rw [hp] at hj
   simp at hj; omega
  ·have gl:=gl c
   rw [c] at hp
   simp only [if_true] at hp
   rcases c6s (hf k _ hn) c with ⟨d,e⟩ | ⟨d,e⟩
   ·rw [e] at hp
    simp only [Bool.false_eq_true,if_false] at hp
    rw [hp] at hj
    have hj2:(j:Int)∈post l ((l[k]).left.toNat+1) (l[k]).left.toNat:=by
     rcases List.mem_append.1 hj with h | h
     ·exact h
     ·simp at h; omega
    obtain ⟨A,B,hab⟩:=b6x hg hf m (l[k]).left.toNat j (by omega) (by omega) hj2
    rw [hp,hab]
    exact ⟨A,B++[(k:Int)],by simp⟩
   ·have gr:=gr e
    rw [e] at hp
    simp only [if_true] at hp
    rw [hp] at hj
    rcases List.mem_append.1 hj with hj | hj
    ·rcases List.mem_append.1 hj with hj | hj
     ·obtain ⟨A,B,hab⟩:=b6x hg hf m (l[k]).left.toNat j (by omega) (by omega) hj
      rw [hp,hab]
      exact ⟨A,B++post l ((l[k]).right.toNat+1) (l[k]).right.toNat++[(k:Int)],by simp⟩
     ·obtain ⟨A,B,hab⟩:=b6x hg hf m (l[k]).right.toNat j (by omega) (by omega) hj
      rw [hp,hab]
      exact ⟨post l ((l[k]).left.toNat+1) (l[k]).left.toNat++A,B++[(k:Int)],by simp⟩
    ·simp at hj; omega
theorem h4i {l:List Node} (hg:a4t l) (_hf:∀ k n,l[k]?=some n→nodeFaultM n (k:Nat)=0) {k:Nat} (hk:k < l.length) {a:Int} (h:Run a (post l (k+1) k)):okk l k:=by
 intro n hn
 have hn':l[k]?=some l[k]:=by simp [hk]
 rw [hn'] at hn
 have hn:=Option.some.inj hn
 subst hn
 obtain ⟨gl,gr⟩:=hg k hk
 have hp:=b4e hg hn'
 refine ⟨fun d=>?_,fun d e=>?_⟩
 ·have c:ltI 2 (l[k]).kind=true:=by simp [eqI] at d; simp [ltI,d]
  have e:inR (l[k]).kind 3 9=false:=by simp [eqI] at d; simp [inR,A2,leI,d]
  have gl:=gl c
  rw [c,e] at hp
  simp only [Bool.false_eq_true,if_false,if_true] at hp
  rw [hp] at h
  obtain ⟨X,hX⟩:=c1r hg (k:=(l[k]).left.toNat) (by omega)
  have h1:=b4q (a9u h)
  rw [hX] at h h1
  have h2:=b4q (a9u (b6w h))
  simp at h1; omega
 ·have c:ltI 2 (l[k]).kind=true:=by simp [inR,A2,leI] at e; simp [ltI]; omega
  have gl:=gl c
  have gr:=gr e
  rw [c,e] at hp
  simp only [if_true] at hp
  rw [hp] at h
  obtain ⟨X,hX⟩:=c1r hg (k:=(l[k]).left.toNat) (by omega)
  obtain ⟨Y,hY⟩:=c1r hg (k:=(l[k]).right.toNat) (by omega)
  have hz:sz l (l[k]).right.toNat=(post l ((l[k]).right.toNat+1) (l[k]).right.toNat).length:=rfl
  have h1:=b4q (a9u h)
  have h3:=b6w h
  have h4:=a9u h3
  have h5:=b6w h3
  rw [hY] at h4
  rw [hX] at h5
  have h6:=b4q (a9u h4)
  have h7:=b4q (a9u h5)
  rw [hX,hY] at h1
  rw [hX] at h6
  rw [hY] at hz
  simp at h1 h6 h7 hz; omega
theorem d7l {l:List Node} (hg:a4t l) (hf:∀ k n,l[k]?=some n→nodeFaultM n (k:Nat)=0):∀ (rest:List Node) (i:Nat) (sizes:List Int) (w:Bool),l.drop i=rest→sizes.length=i→(∀ k,k < i→A3 sizes k=sz l k)→
  (∀ k,k < l.length→A3 (O2 rest i sizes w).1 k=sz l k)∧((O2 rest i sizes w).2=false ↔ w=false∧∀ k,i≤k→k < l.length→okk l k)
 | [],i,sizes,w,h,hs,hz=>by
  have hge:l.length≤i:=by simpa using h
  refine ⟨fun k hk=>hz k (by omega),?_⟩
  simp [O2]
  intro _ k hk; omega
 | n::rest,i,sizes,w,h,hs,hz=>by
  have hi:i < l.length:=by
   rcases Nat.lt_or_ge i l.length with h' | h'
   ·exact h'
   ·rw [List.drop_eq_nil_of_le h'] at h; simp at h
  rw [List.drop_eq_getElem_cons hi] at h
  obtain ⟨hc,hr⟩:=List.cons.inj h
  have hn:l[i]?=some n:=by simp [hi,hc]
  have hfn:=hf i n hn
  obtain ⟨gl,gr⟩:=hg i hi
  rw [hc] at gl gr
  have hp:=b4e hg hn
  have hsi:sz l i=(post l (i+1) i).length:=rfl
  have hz':∀ x:Int,0≤x→x < i→A3 sizes x=sz l x.toNat:=fun x h0 h1=>by
   have:=hz x.toNat (by omega)
   rw [← this]; congr 1; omega
  have hsize:a4o n sizes=sz l i:=by
   unfold a4o
   cases c:ltI 2 n.kind
   ·have c':n.kind≤2:=by simpa [ltI] using c
    rw [c] at hp; simp at hp
    rw [if_neg (by simp [eqI]; omega),if_neg (by simp [inR,A2,leI]; omega),hsi,hp]; rfl
   ·have gl:=gl c
    rw [c] at hp; simp only [if_true] at hp
    rcases c6s hfn c with ⟨d,e⟩ | ⟨d,e⟩
    ·rw [e] at hp
     simp only [Bool.false_eq_true,if_false] at hp
     rw [if_pos d,hz' _ gl.1 gl.2,hsi,hp]
     simp [sz]; omega
    ·have gr:=gr e
     rw [e] at hp
     simp only [if_true] at hp
     rw [if_neg (by simp [d]),if_pos e,hz' _ gl.1 gl.2,hz' _ gr.1 gr.2,hsi,hp]
     simp [sz]; omega
  have hwrong:a7n n i sizes w=false ↔ w=false∧okk l i:=by
   unfold a7n okk
   rw [hn]
   cases d:eqI n.kind 10
   ·cases e:inR n.kind 3 9
    ·simp [e,d]
    ·have c:ltI 2 n.kind=true:=by simp [inR,A2,leI] at e; simp [ltI]; omega
     have gr:=gr e
     rw [hz' _ gr.1 gr.2]
     have d':¬ n.kind=10:=by simpa [eqI] using d
     simp [e,d',orB,A0,eqI,and_assoc]
   ·have d':n.kind=10:=by simpa [eqI] using d
    simp [d',orB,A0,eqI]
  have ih:=d7l hg hf rest (i+1) (sizes++[a4o n sizes]) (a7n n i sizes w) hr (by simp [hs]) (fun k hk=>by
   rcases Nat.lt_or_ge k i with h' | h'
   ·rw [← hz k h']
    unfold A3
    simp [List.getElem?_append,hs,h']
   ·have e:k=i:=by omega
    subst e
    rw [← hsize]
    simp [A3,hs])
  refine ⟨ih.1,?_⟩
  rw [show O2 (n::rest) i sizes w=O2 rest (i+1) (sizes++[a4o n sizes]) (a7n n i sizes w) from rfl,ih.2,hwrong,and_assoc]
  refine and_congr_right fun _=>⟨fun ⟨h1,h2⟩ k hk1 hk2=>?_,fun h=>⟨h i (Nat.le_refl _) hi,fun k hk1 hk2=>h k (by omega) hk2⟩⟩
  rcases Nat.lt_or_ge i k with h' | h'
  ·exact h2 k h' hk2
  ·have e:k=i:=by omega
   subst e; exact h1
theorem c1s:∀ {l:List Node} {i:Nat},M4 i l=0→∀ (k:Nat) (n:Node),l[k]?=some n→nodeFaultM n (i+k:Nat)=0
 | [],i,_,k,n,h=>by simp at h
 | x::l,i,hz,k,n,h=>by
  unfold M4 at hz
  split at hz
  ·rename_i c; rw [hz] at c; simp [A0,eqI] at c
  ·rename_i c
   cases k with
   | zero=>
    simp at h; subst h
    simpa [A0,eqI] using c
   | succ k=>
    have:=c1s hz k n (by simpa using h)
    have e:i+1+k=i+(k+1):=by omega
    rw [← e]; exact this
theorem g2d {n:Node} {i:Nat} (h:nodeFaultM n i=0):(ltI 2 n.kind=true→0≤n.left∧n.left < i)∧(inR n.kind 3 9=true→0≤n.right∧n.right < i):=by
 rw [← c1q] at h
 unfold a2t at h
 split at h
 ·simp at h
 ·split at h
  ·simp at h
  ·split at h
   ·simp at h
   ·split at h
    ·simp at h
    ·rename_i c
     simp [orB,A2,A0,inR,leI] at c
     obtain ⟨c1,c2⟩:=c
     refine ⟨fun h=>?_,fun h=>?_⟩
     ·simp [ltI] at h
      have:=c1 h; omega
     ·simp [inR,A2,leI] at h
      have:=c2 h.1 h.2; omega
theorem c1t (l:List Node):P9 l=a0j l:=by
 unfold P9 a0j
 by_cases hl:1≤l.length∧l.length≤16
 ·have e1:orB (ltI l.length 1) (ltI 16 l.length)=false:=by simp [orB,ltI]; omega
  have e2:A0 (inR l.length 1 16)=false:=by simp [A0,inR,A2,leI]; omega
  rw [e1,e2,d1d]
  simp only [Bool.false_eq_true,if_false]
  by_cases hz:M4 0 l=0
  ·have hf:∀ k n,l[k]?=some n→nodeFaultM n (k:Nat)=0:=fun k n h=>by
    have:=c1s hz k n h; simpa using this
   have hg:a4t l:=fun k hk=>g2d (hf k l[k] (by simp [hk]))
   obtain ⟨w1,w2⟩:=d7l hg hf l 0 [] false rfl rfl (fun k hk=>by omega)
   have hn1:l.length - 1 < l.length:=by omega
   have hf1:post l l.length (l.length - 1)=post l (l.length - 1+1) (l.length - 1):=b3q hg _ _ _ (by omega) (by omega)
   have hsz:sz l (l.length - 1)=(post l (l.length - 1+1) (l.length - 1)).length:=rfl
   have hq:¬ (A0 (eqI (M4 0 l) 0)=true):=by simp [A0,eqI,hz]
   rw [if_neg hq,if_neg hq]
   have ez:A3 (O2 l 0 [] false).1 ((l.length:Int) - 1)=sz l (l.length - 1):=by
    rw [← w1 _ hn1]; congr 1; omega
   rw [ez]
   by_cases ok:(∀ k,k < l.length→okk l k)∧sz l (l.length - 1)=l.length
   ·obtain ⟨ok1,ok2⟩:=ok
    have hr:=b8e hg hf ok1 l.length (l.length - 1) hn1 hn1
    have ho:a0h l=post l (l.length - 1+1) (l.length - 1):=by
     unfold a0h
     rw [b6j l _ _ _ (by rw [hf1]; simp; omega),hf1]; rfl
    have e3:(O2 l 0 [] false).2=false:=w2.2 ⟨rfl,fun k _ h=>ok1 k h⟩
    have e5:(a0h l).length=l.length:=by rw [ho]; omega
    have e4:a2u 0 (a0h l)=true:=by
     rw [b9t,ho]
     have:(((l.length - 1:Nat):Int)+1 - sz l (l.length - 1))=((0:Nat):Int):=by omega
     rw [← this]; exact hr
    simp [e3,e4,e5,ok2,orB,A0,eqI]
   ·have e3:orB (O2 l 0 [] false).2 (A0 (eqI (sz l (l.length - 1)) (l.length:Int)))=true:=by
     unfold orB A0 eqI
     cases hw:(O2 l 0 [] false).2
     ·simp
      intro h
      exact ok ⟨fun k hk=>(w2.1 hw).2 k (by omega) hk,h⟩
     ·rfl
    refine Eq.trans ?_ (if_pos e3).symm
    by_cases c:(a0h l).length=l.length
    rotate_left
    ·rw [if_pos (by simp [A0,eqI]; omega)]
    ·rw [if_neg (by simp [A0,eqI,c]),if_neg]
     intro hi
     have ho:a0h l=post l (l.length - 1+1) (l.length - 1):=by
      unfold a0h at c ⊢
      rw [b5x l _ _ _ (by omega),hf1]; rfl
     rw [b9t,ho] at hi
     have hall:∀ k,k < l.length→okk l k:=fun k hk=>by
      have hm:(k:Int)∈post l (l.length - 1+1) (l.length - 1):=by
       have hk2:k < (post l (l.length - 1+1) (l.length - 1)).length:=by rw [← ho]; omega
       have:=hi k _ (List.getElem?_eq_getElem hk2)
       simp at this
       rw [← this]; exact List.getElem_mem _
      obtain ⟨A,B,hab⟩:=b6x hg hf l.length (l.length - 1) k hn1 hn1 hm
      rw [hab] at hi
      exact h4i hg hf hk (a9u (b6w hi))
     exact ok ⟨hall,by rw [hsz,← ho,c]⟩
  ·have:A0 (eqI (M4 0 l) 0)=true:=by simp [A0,eqI,hz]
   simp [this]
 ·have e1:orB (ltI l.length 1) (ltI 16 l.length)=true:=by simp [orB,ltI]; omega
  have e2:A0 (inR l.length 1 16)=true:=by simp [A0,inR,A2,leI]; omega
  simp [e1,e2]
end Go.TM.Ft
