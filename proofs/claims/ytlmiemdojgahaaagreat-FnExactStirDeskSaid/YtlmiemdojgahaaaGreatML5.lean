/- What functions of the program come to, by the machine. -/
import Derived.Test.YtlmiemdojgahaaaGreatML4
set_option linter.unusedSimpArgs false
set_option linter.unusedVariables false
set_option maxHeartbeats 4000000
namespace Go.TM.Ft
open Go Go.TM Go.Proofs Go.Proofs.Tryz
set_option maxRecDepth 20000
attribute [local congr] O3
attribute [local simp] L9 M4 K0 L6 J6 L4 J8 J1 K5 I6
attribute [local simp] Zc f1n d9v d5x e8y
def kindN (l:List Node) (k:Int):Int:=match l[k.toNat]? with | some n=>n.kind | none=>0
structure ExprOk (l:List Node):Prop where
 pos:1≤l.length
 le:l.length≤16
 node:∀ (k:Nat) (n:Node),l[k]?=some n→nodeFaultM n (k:Nat)=0
 typ:∀ (k:Nat) (n:Node),l[k]?=some n→2<n.kind→(partB (kindN l n.left)).2=(partB n.kind).1∧(n.kind≤9→(partB (kindN l n.right)).2=(partB n.kind).1)
theorem Cw {n:Node} {i:Int} (h:nodeFaultM n i=0):
  (n.kind=1∧0≤n.value∧n.value≤9999)∨(n.kind=2∧0≤n.value∧n.value≤3)∨(n.kind=10∧n.right=0∧0≤n.left∧n.left≤i - 1)∨
  (3≤n.kind∧n.kind≤9∧0≤n.left∧n.left≤i - 1∧0≤n.right∧n.right≤i - 1):=by
 unfold nodeFaultM at h
 by_cases h1:n.kind=1
 ·simp[h1,A7,A0,C5,A2,A5,A6,B5] at h
  (repeat' split at h)<;>first | omega | simp at h
 by_cases h2:n.kind=2
 ·simp[h2,A7,A0,C5,A2,A5,A6,B5] at h
  (repeat' split at h)<;>first | omega | simp at h
 by_cases cB:n.kind=10
 ·simp[cB,A7,A0,C5,A2,A5,A6,B5] at h
  (repeat' split at h)<;>first | omega | simp at h
 by_cases vY:3≤n.kind∧n.kind≤9
 ·have e:A5 n.kind 3 9=true:=by simp[A5,A6,B5];exact vY
  simp only[e] at h
  simp[h1,h2,cB,A7,A0,C5,A2,A5,A6,B5] at h
  (repeat' split at h)<;>first | omega | simp at h
 ·have e:A5 n.kind 3 9=false:=by simp[A5,A6,B5];omega
  simp[h1,h2,cB,e,A7,A0] at h
def kF (k a b:Int):Int×Bool:=if A6 (A0 k 6) (A0 b 0)=true then (0,false) else (T5 k a b,true)
theorem c5j {a b:Int} (oP:-1000000≤a) (X8:a≤1000000) (bQ:-1000000≤b) (T9:b≤1000000):-1000000000000≤a*b∧a*b≤1000000000000:=by
 have h:(a*b).natAbs≤1000000*1000000:=by
  rw[Int.natAbs_mul]
  exact Nat.mul_le_mul (by omega) (by omega)
 omega
theorem b1l {a b:Int} (oP:-1000000≤a) (X8:a≤1000000):-1000000≤Int.tdiv a b∧Int.tdiv a b≤1000000:=by
 have h:(Int.tdiv a b).natAbs≤a.natAbs:=by rw[Int.natAbs_tdiv];exact Nat.div_le_self _ _
 omega
theorem d1j (k a b:Int) (oP:-1000000≤a) (X8:a≤1000000) (bQ:-1000000≤b) (T9:b≤1000000) (hk:3≤k∧k≤9) (h9:k=9→(a=0∨a=1)∧(b=0∨b=1)):
  fo 282 [A (vI k),A (vI a),A (vI b)]=some (R2 (vI (kF k a b).1) (vB (kF k a b).2)):=by
 have hm:=c5j oP X8 bQ T9
 have hd:=b1l (b:=b) oP X8
 have w1:IntKind.i64.wrap (a+b)=a+b:=by rw[B6]<;>omega
 have w2:IntKind.i64.wrap (a - b)=a - b:=by rw[B6]<;>omega
 have w3:IntKind.i64.wrap (a*b)=a*b:=by rw[B6]<;>omega
 have w4:IntKind.i64.wrap (Int.tdiv a b)=Int.tdiv a b:=by rw[B6]<;>omega
 refine e1s 1 ?_
 have e33:A0 3 3=true:=rfl
 by_cases h3:k=3
 ·subst h3
  simp (maxSteps:=1000000) +contextual -dsimp [f282,w1,kF,T5,D2,show A0 3 6=false from rfl,A6]
 by_cases h4:k=4
 ·subst h4
  simp (maxSteps:=1000000) +contextual -dsimp [f282,w2,kF,T5,D2,show A0 4 6=false from rfl,show A0 4 3=false from rfl,A6]
 by_cases h5:k=5
 ·subst h5
  simp (maxSteps:=1000000) +contextual -dsimp [f282,w3,kF,T5,D2,show A0 5 6=false from rfl,show A0 5 3=false from rfl,show A0 5 4=false from rfl,A6]
 by_cases h6:k=6
 ·subst h6
  by_cases hb:b=0
  ·subst hb
   simp (maxSteps:=1000000) +contextual -dsimp [f282,kF,D2,show A0 6 3=false from rfl,show A0 6 4=false from rfl,show A0 6 5=false from rfl,A6]
  ·have q:=Up Tryz.prog 2 (.tmp 28) (.tmp 29) a b hb
   have hb':A0 b 0=false:=by simp[A0,hb]
   simp (maxSteps:=1000000) +contextual -dsimp [f282,w4,q,hb',kF,T5,D2,show A0 6 3=false from rfl,show A0 6 4=false from rfl,show A0 6 5=false from rfl,A6]
 by_cases h7:k=7
 ·subst h7
  simp (maxSteps:=1000000) +contextual -dsimp [f282,O4,kF,T5,D2,show A0 7 6=false from rfl,show A0 7 3=false from rfl,show A0 7 4=false from rfl,show A0 7 5=false from rfl,A6]
 by_cases h8:k=8
 ·subst h8
  simp (maxSteps:=1000000) +contextual -dsimp [f282,O4,kF,T5,D2,show A0 8 6=false from rfl,show A0 8 3=false from rfl,show A0 8 4=false from rfl,show A0 8 5=false from rfl,show A0 8 7=false from rfl,A6]
 have h:k=9:=by omega
 subst h
 obtain⟨ha,hb⟩:=h9 rfl
 rcases ha with rfl | rfl<;>rcases hb with rfl | rfl <;>
 simp (maxSteps:=1000000) +contextual -dsimp [f282,kF,T5,D2,show A0 9 6=false from rfl,show A0 9 3=false from rfl,show A0 9 4=false from rfl,show A0 9 5=false from rfl,show A0 9 7=false from rfl,show A0 9 8=false from rfl,A6]
end Go.TM.Ft
namespace Go.TM.Ft
open Go Go.TM Go.Proofs Go.Proofs.Tryz
set_option maxRecDepth 20000
attribute [local congr] O3
attribute [local simp] L9 M4 K0 L6 J6 L4 J8 J1 K5 I6
theorem O1 {l:List Int} {k:Nat} (h:k<l.length):B4 l (k:Int)=l[k]:=bF h
theorem d9t {l:List Node} {k:Nat} {n:Node} (h:l[k]?=some n):kindN l (k:Int)=n.kind:=by simp[kindN,h]
structure Vals (l:List Node) (i:Nat) (acc:List Int):Prop where
 len:acc.length=i
 rng:∀ (k:Nat) (h:k<acc.length),-1000000≤acc[k]∧acc[k]≤1000000
 bool:∀ (k:Nat) (h:k<acc.length),(partB (kindN l (k:Int))).2=2→acc[k]=0∨acc[k]=1
theorem d7d {v:Int} (h:badV v=false):-1000000≤v∧v≤1000000:=by
 unfold badV at h
 have:A5 v (-1000000) 1000000=true:=by cases e:A5 v (-1000000) 1000000<;>simp[A2,e] at h ⊢
 simp[A5,A6,B5] at this
 exact this
theorem c3g (a b:Int):T5 10 a b=1 - a:=rfl
theorem e2w {k:Int} (h:(partB k).2=2):7≤k:=by
 unfold partB at h
 simp[B5] at h
 split at h
 ·simp at h
 ·omega
theorem Vals.next {l:List Node} (ok:ExprOk l) {i:Nat} {acc vars:List Int} (h:Vals l i acc) (hi:i<l.length) (hb:badV (Y4 vars acc l[i])=false):Vals l (i+1) (acc++[Y4 vars acc l[i]]):=by
 have hl:=h.len
 refine⟨by simp[hl],fun k hk=>?_,fun k hk=>?_⟩
 ·simp at hk
  rcases Nat.lt_or_ge k acc.length with h' | h'
  ·rw[List.getElem_append_left h'];exact h.rng k h'
  ·have e:k=acc.length:=by omega
   subst e
   simp;exact d7d hb
 ·intro hp
  simp at hk
  rcases Nat.lt_or_ge k acc.length with h' | h'
  ·rw[List.getElem_append_left h'];exact h.bool k h' hp
  ·have e:k=i:=by omega
   subst e
   have hn:l[k]?=some l[k]:=List.getElem?_eq_getElem hi
   rw[d9t hn] at hp
   have h7:=e2w hp
   have T1:Y4 vars acc l[k]=T5 (l[k]).kind (B4 acc (l[k]).left) (B4 acc (l[k]).right):=by
    unfold Y4
    rw[if_neg (by simp[A0];omega),if_neg (by simp[A0];omega)]
   have e:(acc++[Y4 vars acc l[k]])[k]'(by simp;omega)=Y4 vars acc l[k]:=by
    rw[List.getElem_append_right (by omega)];simp
   rw[e,T1]
   have bl:∀ x:Int,0≤x→x≤(k:Int) - 1→(partB (kindN l x)).2=2→B4 acc x=0∨B4 acc x=1:=by
    intro x h0 h1 h2
    obtain⟨y,rfl⟩:=Int.eq_ofNat_of_zero_le h0
    rw[O1 (by omega)]
    exact h.bool y (by omega) h2
   rcases Cw (ok.node k _ hn) with q | q | q | q
   ·omega
   ·omega
   ·rw[q.1,c3g]
    have t:=(ok.typ k _ hn (by omega)).1
    rw[q.1] at t
    rcases bl _ q.2.2.1 q.2.2.2 t with e | e<;>rw[e]<;>simp
   ·by_cases k7:(l[k]).kind=7
    ·rw[k7];simpa[T5,A0] using a8f _
    by_cases k8:(l[k]).kind=8
    ·rw[k8];simpa[T5,A0] using a8f _
    have k9:(l[k]).kind=9:=by omega
    have t:=ok.typ k _ hn (by omega)
    rw[k9] at t ⊢
    have b1:=bl _ q.2.2.1 q.2.2.2.1 t.1
    have b2:=bl _ q.2.2.2.2.1 q.2.2.2.2.2 (t.2 (by omega))
    rcases b1 with e | e<;>rcases b2 with e2 | e2<;>rw[e,e2]<;>simp[T5,A0]
abbrev Ht (l:List Node) (vars:List Int) (i:Nat) (acc:List Int):St:=
 ⟨77,[(1,iS vars),(6,.ref 6 1 [] 0 acc.length),(12,nS 219 l),(13,vI l.length),(14,vI i)],[(6,⟨1,1,false,[.own 2 (iE acc)]⟩)],2⟩
theorem d2z (l:List Node) (ok:ExprOk l) (vars:List Int) (hv:vars.length=4):
  iK 0 (fun acc=>⟨77,[(1,iS vars),(6,.ref 6 1 [] 0 acc.length),(12,nS 219 l),(13,vI l.length),(14,vI l.length),(15,vB false)],[(6,⟨1,1,false,[.own 2 (iE acc)]⟩)],2⟩)
   (fun _ st=>∃ rt,st=⟨77,[(4,vI 0),(5,vB false)],rt,2⟩) (B7 E (orc E) (238:Nat) (l.length+1) (C1 f238 0) (Ht l vars 0 [])) (Q7 (iG vars) 0 [] l):=by
 have D8:=ok.le
 refine sA (f:=238) (id:=0) (code:=C1 f238 0) l (Vals l) (Ht l vars) (iG vars) _ _ ?_ ?_ l 0 [] rfl (Nat.zero_le _) ⟨rfl,fun k h=>by simp at h,fun k h=>by simp at h⟩
 ·intro k s _
  have A1:=cF l.length
  simp +contextual -dsimp [f238,A1]
 ·intro k i acc hi hI
  have hn:l[i]?=some l[i]:=List.getElem?_eq_getElem hi
  have S2:=hI.len
  have A1:=U2 hi
  have hw:=S6 hi (by omega)
  have H9:acc.length+1≤D0:=by unfold D0;omega
  unfold iG Ii
  generalize hc:l[i]=n at *
  have nk:=Cw (ok.node i n hn)
  have nx:badV (Y4 vars acc n)=false→Vals l (i+1) (acc++[Y4 vars acc n]):=fun hb=>by
   have:=hI.next ok hi (vars:=vars)
   rw[hc] at this
   exact this hb
  generalize rB:Y4 vars acc n=v at *
  have I5:A5 v (-1000000) 1000000=A2 (badV v):=by simp[badV,A2]
  by_cases k1:n.kind=1
  ·have ev:v=n.value:=by rw[←rB];simp[Y4,k1,A0]
   have ez:U1 n.kind (B4 acc n.right)=false:=by simp[U1,k1,A0,A6]
   rw[←ev] at nk
   cases hb:badV v
   ·refine⟨fun s' hs=>?_,fun e he=>by simp[ez,hb,A7] at he⟩
    simp[ez,hb,A7] at hs
    subst hs
    refine⟨?_,nx hb⟩
    rw[hb] at I5
    simp (maxSteps:=1000000) +contextual -dsimp [f238,H5,eS,A1,hi,hc,hw,H9,k1,←ev,I5,show A0 1 2=false from rfl,show A0 1 10=false from rfl,show A5 1 3 9=false from rfl,List.set]
   ·exfalso
    simp[badV,A2,A5,A6,B5] at hb
    omega
  by_cases k2:n.kind=2
  ·obtain⟨m,hm⟩:=Int.eq_ofNat_of_zero_le (show 0≤n.value by omega)
   have fB:m<vars.length:=by omega
   have ev:v=vars[m]:=by rw[←rB];unfold Y4;rw[if_neg (by simp[k2,A0]),if_pos (by simp[k2,A0]),hm,O1 fB]
   have ez:U1 n.kind (B4 acc n.right)=false:=by simp[U1,k2,A0,A6]
   cases hb:badV v
   ·refine⟨fun s' hs=>?_,fun e he=>by simp[ez,hb,A7] at he⟩
    simp[ez,hb,A7] at hs
    subst hs
    refine⟨?_,nx hb⟩
    rw[hb] at I5
    simp (maxSteps:=1000000) +contextual -dsimp [f238,H5,eS,A1,hi,hc,hw,H9,k2,hm,fB,←ev,I5,D2,List.set]
   ·refine⟨fun s' hs=>by simp[hb,A7] at hs,fun e he=>⟨_,?_,[(6,⟨1,1,false,[.own 2 (iE acc)]⟩)],rfl⟩⟩
    rw[hb] at I5
    simp (maxSteps:=1000000) +contextual -dsimp [f238,H5,eS,A1,hi,hc,hw,H9,k2,hm,fB,←ev,I5,D2,List.set]
  by_cases k10:n.kind=10
  ·obtain⟨m,hm⟩:=Int.eq_ofNat_of_zero_le (show 0≤n.left by omega)
   have fB:m<acc.length:=by omega
   have hr:=hI.rng m fB
   have Q2:IntKind.i64.wrap (1 - acc[m])=1 - acc[m]:=by rw[B6]<;>omega
   have ev:v=1 - acc[m]:=by rw[←rB];unfold Y4;rw[if_neg (by simp[k10,A0]),if_neg (by simp[k10,A0]),k10,c3g,hm,O1 fB]
   rw[←ev] at Q2
   have ez:U1 n.kind (B4 acc n.right)=false:=by simp[U1,k10,A0,A6]
   cases hb:badV v
   ·refine⟨fun s' hs=>?_,fun e he=>by simp[ez,hb,A7] at he⟩
    simp[ez,hb,A7] at hs
    subst hs
    refine⟨?_,nx hb⟩
    rw[hb] at I5
    simp (maxSteps:=1000000) +contextual -dsimp [f238,H5,eS,A1,hi,hc,hw,H9,k10,hm,fB,←ev,Q2,I5,D2,show A0 10 2=false from rfl,List.set]
   ·refine⟨fun s' hs=>by simp[hb,A7] at hs,fun e he=>⟨_,?_,[(6,⟨1,1,false,[.own 2 (iE acc)]⟩)],rfl⟩⟩
    rw[hb] at I5
    simp (maxSteps:=1000000) +contextual -dsimp [f238,H5,eS,A1,hi,hc,hw,H9,k10,hm,fB,←ev,Q2,I5,D2,show A0 10 2=false from rfl,List.set]
  have k39:3≤n.kind∧n.kind≤9:=by omega
  obtain⟨a,ha⟩:=Int.eq_ofNat_of_zero_le (show 0≤n.left by omega)
  obtain⟨b,hb⟩:=Int.eq_ofNat_of_zero_le (show 0≤n.right by omega)
  have jY:a<acc.length:=by omega
  have gA:b<acc.length:=by omega
  have ra:=hI.rng a jY
  have rb:=hI.rng b gA
  have Jh:A5 n.kind 3 9=true:=by simp[A5,A6,B5];exact k39
  have e2:A0 n.kind 2=false:=by simp[A0];omega
  have e10:A0 n.kind 10=false:=by simp[A0];omega
  have ev:v=T5 n.kind acc[a] acc[b]:=by rw[←rB];unfold Y4;rw[if_neg (by simp[A0];omega),if_neg (by simp[A0];omega),ha,hb,O1 jY,O1 gA]
  have ez:U1 n.kind (B4 acc n.right)=A6 (A0 n.kind 6) (A0 acc[b] 0):=by rw[hb,O1 gA];rfl
  have g:=d1j n.kind acc[a] acc[b] ra.1 ra.2 rb.1 rb.2 k39 (fun h9=>by
   have t:=ok.typ i n hn (by omega)
   rw[h9,ha,hb] at t
   exact⟨hI.bool a jY t.1,hI.bool b gA (t.2 (by omega))⟩)
  unfold kF at g
  rw[←ev,←ez] at g
  cases hz:U1 n.kind (B4 acc n.right)
  ·rw[hz,if_neg (by simp)] at g
   cases iP:badV v
   ·refine⟨fun s' hs=>?_,fun e he=>by simp[iP,A7] at he⟩
    simp[iP,A7] at hs
    subst hs
    refine⟨?_,nx iP⟩
    rw[iP] at I5
    simp (maxSteps:=1000000) +contextual -dsimp [f238,H5,eS,A1,hi,hc,hw,H9,ha,hb,jY,gA,e2,e10,Jh,g,I5,List.set]
   ·refine⟨fun s' hs=>by simp[iP,A7] at hs,fun e he=>⟨_,?_,[(6,⟨1,1,false,[.own 2 (iE acc)]⟩)],rfl⟩⟩
    rw[iP] at I5
    simp (maxSteps:=1000000) +contextual -dsimp [f238,H5,eS,A1,hi,hc,hw,H9,ha,hb,jY,gA,e2,e10,Jh,g,I5,List.set]
  ·rw[hz,if_pos rfl] at g
   refine⟨fun s' hs=>by simp[A7] at hs,fun e he=>⟨_,?_,[(6,⟨1,1,false,[.own 2 (iE acc)]⟩)],rfl⟩⟩
   simp (maxSteps:=1000000) +contextual -dsimp [f238,H5,eS,A1,hi,hc,hw,H9,ha,hb,jY,gA,e2,e10,Jh,g,List.set]
def RE (o:Option Int):Res:=match o with | some v=>R2 (vI v) (vB true) | none=>R2 (vI 0) (vB false)
theorem Fy {vars:List Int}:∀ {l:List Node} {i:Nat} {acc a:List Int},Q7 (iG vars) i acc l=.inr a→a.length=acc.length+l.length
 | [],i,acc,a,h=>by simp only[Q7,Sum.inr.injEq] at h;subst h;rfl
 | n::l,i,acc,a,h=>by
  unfold Q7 iG at h
  split at h
  ·rename_i s hs
   split at hs
   ·simp at hs
   ·simp only[Sum.inr.injEq] at hs;subst hs
    rw[Fy h];simp;omega
  ·simp at h
theorem a6k {vars:List Int}:∀ {l:List Node} {i:Nat} {acc a:List Int},(∀ x,x∈acc→badV x=false)→Q7 (iG vars) i acc l=.inr a→∀ x,x∈a→badV x=false
 | [],i,acc,a,h0,h=>by simp only[Q7,Sum.inr.injEq] at h;subst h;exact h0
 | n::l,i,acc,a,h0,h=>by
  unfold Q7 iG at h
  split at h
  ·rename_i s hs
   split at hs
   ·simp at hs
   ·rename_i hb
    simp only[Sum.inr.injEq] at hs;subst hs
    refine a6k (fun x hx=>?_) h
    rcases List.mem_append.1 hx with hx | hx
    ·exact h0 x hx
    ·rw[List.mem_singleton.1 hx]
     cases q:badV (Y4 vars acc n)
     ·rfl
     ·simp[Ii,q,A7] at hb
  ·simp at h
theorem Ou {l:List Node} (ok:ExprOk l) {vars:List Int} {v:Int} (h:gM l vars=some v):badV v=false:=by
 unfold gM at h
 split at h
 ·rename_i acc hq
  simp only[Option.some.injEq] at h
  subst h
  have hl:=Fy hq
  have hp:=ok.pos
  simp at hl
  have e:((l.length:Int) - 1)=((l.length - 1:Nat):Int):=by omega
  rw[e,O1 (by omega)]
  exact a6k (by simp) hq _ (List.getElem_mem _)
 ·simp at h
theorem c4y (l:List Node) (ok:ExprOk l) (vars:List Int) (hv:vars.length=4):fo 238 [A (nS 219 l),A (iS vars)]=some (RE (gM l vars)):=by
 have A4:=d2z l ok vars hv
 have dO:=ok.pos
 have D8:=ok.le
 refine d8h (l.length+1) ?_
 unfold gM
 cases q:Q7 (iG vars) 0 [] l with
 | inl e=>
  rw[q] at A4
  obtain⟨_,A4,rt,rfl⟩:=A4
  simp -dsimp [f238,Ht,iE] at A4
  simp (maxSteps:=1000000) +contextual -dsimp [f238,A4,RE,List.set]
 | inr acc=>
  rw[q] at A4
  unfold iK at A4
  simp -dsimp [f238,Ht,iE] at A4
  have D7:=Fy q
  simp at D7
  have A1:l.length - 1<acc.length:=by omega
  have hw:IntKind.i64.wrap ((acc.length:Int) - 1)=((l.length - 1:Nat):Int):=by rw[B6]<;>omega
  have e1:B4 acc ((l.length:Int) - 1)=acc[l.length - 1]:=by
   have:((l.length:Int) - 1)=((l.length - 1:Nat):Int):=by omega
   rw[this,O1 A1]
  simp (maxSteps:=1000000) +contextual -dsimp [f238,A4,hw,A1,e1,RE,List.set]
end Go.TM.Ft
namespace Go.TM.Ft
theorem Ka (n:Node) (i:Int):gL n i=nodeFaultM n i:=by
 unfold gL nodeFaultM C5
 by_cases h1:n.kind=1
 ·simp only[h1];simp (config:={decide:=true}) only [A7,A6,A2,A0,B5,A5]
  by_cases a:n.left=0<;>by_cases b:n.right=0<;>by_cases c:0≤n.value<;>by_cases d:n.value≤9999<;>simp[a,b,c,d]
 by_cases h2:n.kind=2
 ·simp only[h2];simp (config:={decide:=true}) only [A7,A6,A2,A0,B5,A5]
  by_cases a:n.left=0<;>by_cases b:n.right=0<;>by_cases c:0≤n.value<;>by_cases d:n.value≤3<;>simp[a,b,c,d]
 by_cases cB:n.kind=10
 ·simp only[cB];simp (config:={decide:=true}) only [A7,A6,A2,A0,B5,A5]
  by_cases a:n.value=0<;>by_cases b:n.right=0<;>by_cases c:0≤n.left<;>by_cases d:n.left≤i - 1<;>simp[a,b,c,d]
 by_cases h3:3≤n.kind∧n.kind≤9
 ·obtain⟨h3,h9⟩:=h3
  have e1:1≤n.kind:=by omega
  have e2:n.kind≤10:=by omega
  have e3:¬ n.kind≤2:=by omega
  simp (config:={decide:=true}) only [A7,A6,A2,A0,B5,A5]
  by_cases a:n.value=0<;>by_cases c:0≤n.left<;>by_cases d:n.left≤i - 1<;>by_cases c2:0≤n.right<;>by_cases d2:n.right≤i - 1<;>simp[a,c,d,c2,d2,h1,h2,h3,h9,cB,e1,e2,e3]
 ·have:¬ (1≤n.kind∧n.kind≤10):=by omega
  simp[A7,A6,A2,A0,B5,A5,h1,h2,cB,h3,this]
theorem b3t:∀ (l:List Node) (i:Nat),bN i l=T0 i l
 | [],_=>rfl
 | n::l,i=>by
  simp only[bN,T0,Ka,b3t l]
def post (l:List Node):Nat→Nat→List Int
 | 0,_=>[]
 | f+1,at_=>
  match l[at_]? with
  | none=>[]
  | some n=>
   if A3 2 n.kind=true then
    (if A5 n.kind 3 9=true then post l f n.left.toNat++post l f n.right.toNat else post l f n.left.toNat)++[(at_:Int)]
   else [(at_:Int)]
theorem Dd (l:List Node):∀ (f at_:Nat) (out:List Int),out.length≤(N7 l f at_ out).length
 | 0,_,out=>by simp[N7]
 | f+1,at_,out=>by
  unfold N7
  split
  ·exact Nat.le_refl _
  ·rename_i n hn
   have h1:=Dd l f n.left.toNat out
   have h2:=Dd l f n.right.toNat (N7 l f n.left.toNat out)
   split
   ·exact Nat.le_refl _
   ·split
    ·split
     ·simp;omega
     ·simp;omega
    ·simp
theorem Il (l:List Node):∀ (f at_:Nat) (out:List Int),(N7 l f at_ out).length≤16→N7 l f at_ out=out++post l f at_
 | 0,_,out,_=>by simp[N7,post]
 | f+1,at_,out,h=>by
  have hm:=Dd l (f+1) at_ out
  cases hn:l[at_]? with
  | none=>simp[N7,post,hn]
  | some n=>
   have ho:A3 16 out.length=false:=by simp[A3];omega
   simp only[N7,post,hn,ho,Bool.false_eq_true,if_false] at h ⊢
   cases c:A3 2 n.kind
   ·simp
   ·simp only[c,if_true] at h ⊢
    cases d:A5 n.kind 3 9
    ·simp only[d,Bool.false_eq_true,if_false] at h ⊢
     simp at h
     rw[Il l f _ _ (by omega),List.append_assoc]
    ·simp only[d,if_true] at h ⊢
     simp at h
     have h2:=Dd l f n.right.toNat (N7 l f n.left.toNat out)
     rw[Il l f n.right.toNat _ (by omega),Il l f n.left.toNat out (by omega)]
     simp
theorem If (l:List Node):∀ (f at_:Nat) (out:List Int),out.length+(post l f at_).length≤17→N7 l f at_ out=out++post l f at_
 | 0,_,out,_=>by simp[N7,post]
 | f+1,at_,out,h=>by
  cases hn:l[at_]? with
  | none=>simp[N7,post,hn]
  | some n=>
   simp only[N7,post,hn] at h ⊢
   cases c:A3 2 n.kind
   ·simp only[c,Bool.false_eq_true,if_false] at h ⊢
    simp at h
    have ho:A3 16 out.length=false:=by simp[A3];omega
    simp[ho]
   ·simp only[c,if_true] at h ⊢
    have ho:A3 16 out.length=false:=by simp at h;simp[A3];omega
    simp only[ho,Bool.false_eq_true,if_false]
    cases d:A5 n.kind 3 9
    ·simp only[d,Bool.false_eq_true,if_false] at h ⊢
     simp at h
     rw[If l f _ _ (by omega),List.append_assoc]
    ·simp only[d,if_true] at h ⊢
     simp at h
     rw[If l f n.left.toNat out (by omega),If l f n.right.toNat _ (by simp;omega)]
     simp
theorem xZ {l:List Node} (hg:kB l):∀ (f g at_:Nat),at_<f→at_<g→post l f at_=post l g at_
 | 0,_,_,h,_=>by omega
 | f+1,0,_,_,h=>by omega
 | f+1,g+1,at_,h1,h2=>by
  unfold post
  split
  ·rfl
  ·rename_i n hn
   obtain⟨hk,he⟩:=List.getElem?_eq_some_iff.1 hn
   obtain⟨gl,gr⟩:=hg at_ hk
   rw[he] at gl gr
   cases c:A3 2 n.kind
   ·simp
   ·have gl:=gl c
    simp only[if_true]
    rw[xZ hg f g n.left.toNat (by omega) (by omega)]
    cases d:A5 n.kind 3 9
    ·simp
    ·have gr:=gr d
     simp only[if_true]
     rw[xZ hg f g n.right.toNat (by omega) (by omega)]
def hH (a:Int) (L:List Int):Prop:=∀ (p:Nat) (v:Int),L[p]?=some v→v=a+p
theorem Km:∀ (L:List Int) (i:Nat),fQ i L=true↔hH i L
 | [],i=>by simp[fQ,hH]
 | x::L,i=>by
  have ih:=Km L (i+1)
  unfold fQ
  constructor
  ·intro h p v hp
   split at h
   ·rename_i c
    cases p with
    | zero=>simp[A0] at c hp;omega
    | succ p=>
     have:=(ih.1 h) p v (by simpa using hp)
     simp at this ⊢;omega
   ·simp at h
  ·intro h
   have h0:x=i:=by simpa using h 0 x (by simp)
   rw[if_pos (by simp[A0,h0])]
   refine ih.2 fun p v hp=>?_
   have:=h (p+1) v (by simpa using hp)
   simp at this ⊢;omega
theorem Tc {a:Int} {X Y:List Int} (h1:hH a X) (h2:hH (a+X.length) Y):hH a (X++Y):=by
 intro p v hp
 rw[List.getElem?_append] at hp
 split at hp
 ·exact h1 p v hp
 ·have:=h2 _ v hp;omega
theorem Hw {a:Int} {X Y:List Int} (h:hH a (X++Y)):hH a X:=fun p v hp=>h p v (by
 obtain⟨hl,_⟩:=List.getElem?_eq_some_iff.1 hp
 rw[List.getElem?_append_left hl];exact hp)
theorem tM {a:Int} {X Y:List Int} (h:hH a (X++Y)):hH (a+X.length) Y:=fun p v hp=>by
 have:=h (X.length+p) v (by rw[List.getElem?_append_right (by omega)];simpa using hp)
 simp at this;omega
theorem Is (a:Int):hH a [a]:=fun p v hp=>by
 cases p with
 | zero=>simp at hp;simp[hp]
 | succ p=>simp at hp
theorem yD {a b:Int} (h:hH a [b]):b=a:=by simpa using h 0 b (by simp)
def sz (l:List Node) (k:Nat):Int:=(post l (k+1) k).length
def tW (l:List Node) (k:Nat):Prop:=∀ n,l[k]?=some n→
 (A0 n.kind 10=true→n.left=k - 1)∧(A0 n.kind 10=false→A5 n.kind 3 9=true→n.right=k - 1∧n.left=k - 1 - sz l n.right.toNat)
theorem xW {l:List Node} (hg:kB l) {k:Nat} {n:Node} (h:l[k]?=some n):post l (k+1) k=
  if A3 2 n.kind=true then
    (if A5 n.kind 3 9=true then post l (n.left.toNat+1) n.left.toNat++post l (n.right.toNat+1) n.right.toNat else post l (n.left.toNat+1) n.left.toNat)++[(k:Int)]
   else [(k:Int)]:=by
 obtain⟨hk,he⟩:=List.getElem?_eq_some_iff.1 h
 obtain⟨gl,gr⟩:=hg k hk
 rw[he] at gl gr
 conv=>lhs;unfold post
 rw[h]
 simp only
 cases c:A3 2 n.kind
 ·simp
 ·have gl:=gl c
  simp only[if_true]
  rw[xZ hg k (n.left.toNat+1) n.left.toNat (by omega) (by omega)]
  cases d:A5 n.kind 3 9
  ·simp
  ·have gr:=gr d
   simp only[if_true]
   rw[xZ hg k (n.right.toNat+1) n.right.toNat (by omega) (by omega)]
theorem Rz {n:Node} {i:Int} (h:nodeFaultM n i=0) (c:A3 2 n.kind=true):(A0 n.kind 10=true∧A5 n.kind 3 9=false)∨(A0 n.kind 10=false∧A5 n.kind 3 9=true):=by
 have:2<n.kind:=by simpa[A3] using c
 by_cases a:n.kind=10
 ·left;simp[A0,A5,A6,B5,a]
 ·by_cases b:A5 n.kind 3 9=true
  ·right;exact⟨by simp[A0,a],b⟩
  ·exfalso
   unfold nodeFaultM at h
   rw[if_neg (by simp[A7,A0];omega),if_neg (by simp[A0,a]),if_neg b] at h
   simp at h
theorem Ib {l:List Node} (hg:kB l) (hf:∀ k n,l[k]?=some n→nodeFaultM n (k:Nat)=0) (ho:∀ k,k<l.length→tW l k):∀ (m k:Nat),k<m→k<l.length→hH (k+1 - sz l k) (post l (k+1) k)
 | 0,_,h,_=>by omega
 | m+1,k,h,hk=>by
  have hn:l[k]?=some l[k]:=by simp[hk]
  obtain⟨o1,o2⟩:=ho k hk _ hn
  obtain⟨gl,gr⟩:=hg k hk
  have hs:sz l k=(post l (k+1) k).length:=rfl
  have hp:=xW hg hn
  cases c:A3 2 (l[k]).kind
  ·rw[c] at hp
   simp at hp
   rw[hs,hp]
   have:=Is k
   simpa using this
  ·have gl:=gl c
   rw[c] at hp
   simp only[if_true] at hp
   rcases Rz (hf k _ hn) c with⟨d,e⟩ | ⟨d,e⟩
   ·have o1:=o1 d
    rw[e] at hp
    simp only[Bool.false_eq_true,if_false] at hp
    have ih:=Ib hg hf ho m (l[k]).left.toNat (by omega) (by omega)
    have aA:sz l (l[k]).left.toNat=(post l ((l[k]).left.toNat+1) (l[k]).left.toNat).length:=rfl
    have zN:sz l k=sz l (l[k]).left.toNat+1:=by rw[hs,hp,aA];simp
    rw[hp]
    refine Tc ?_ ?_
    ·have e1:(k:Int)+1 - sz l k=((l[k]).left.toNat:Nat)+1 - sz l (l[k]).left.toNat:=by omega
     rw[e1];exact ih
    ·have e1:(k:Int)+1 - sz l k+(post l ((l[k]).left.toNat+1) (l[k]).left.toNat).length=k:=by omega
     rw[e1];exact Is _
   ·obtain⟨o3,o4⟩:=o2 d e
    have gr:=gr e
    rw[e] at hp
    simp only[if_true] at hp
    have ih1:=Ib hg hf ho m (l[k]).left.toNat (by omega) (by omega)
    have ih2:=Ib hg hf ho m (l[k]).right.toNat (by omega) (by omega)
    have aA:sz l (l[k]).left.toNat=(post l ((l[k]).left.toNat+1) (l[k]).left.toNat).length:=rfl
    have uQ:sz l (l[k]).right.toNat=(post l ((l[k]).right.toNat+1) (l[k]).right.toNat).length:=rfl
    have zN:sz l k=sz l (l[k]).left.toNat+sz l (l[k]).right.toNat+1:=by rw[hs,hp,aA,uQ];simp;omega
    rw[hp]
    refine Tc (Tc ?_ ?_) ?_
    ·have e1:(k:Int)+1 - sz l k=((l[k]).left.toNat:Nat)+1 - sz l (l[k]).left.toNat:=by omega
     rw[e1];exact ih1
    ·have e1:(k:Int)+1 - sz l k+(post l ((l[k]).left.toNat+1) (l[k]).left.toNat).length=((l[k]).right.toNat:Nat)+1 - sz l (l[k]).right.toNat:=by omega
     rw[e1];exact ih2
    ·have e1:(k:Int)+1 - sz l k+((post l ((l[k]).left.toNat+1) (l[k]).left.toNat++post l ((l[k]).right.toNat+1) (l[k]).right.toNat).length:Nat)=k:=by
      rw[List.length_append];omega
     rw[e1];exact Is _
theorem Je {l:List Node} (hg:kB l) {k:Nat} (hk:k<l.length):∃ X,post l (k+1) k=X++[(k:Int)]:=by
 have hn:l[k]?=some l[k]:=by simp[hk]
 rw[xW hg hn]
 split
 ·split
  ·exact⟨_,rfl⟩
  ·exact⟨_,rfl⟩
 ·exact⟨[],rfl⟩
theorem Fe {l:List Node} (hg:kB l) (hf:∀ k n,l[k]?=some n→nodeFaultM n (k:Nat)=0):∀ (m k j:Nat),k<m→k<l.length→(j:Int)∈post l (k+1) k→∃ A B,post l (k+1) k=A++post l (j+1) j++B
 | 0,_,_,h,_,_=>by omega
 | m+1,k,j,h,hk,hj=>by
  have hn:l[k]?=some l[k]:=by simp[hk]
  obtain⟨gl,gr⟩:=hg k hk
  have hp:=xW hg hn
  by_cases e:j=k
  ·subst e;exact⟨[],[],by simp⟩
  cases c:A3 2 (l[k]).kind
  ·rw[c] at hp
   simp at hp
   rw[hp] at hj
   simp at hj;omega
  ·have gl:=gl c
   rw[c] at hp
   simp only[if_true] at hp
   rcases Rz (hf k _ hn) c with⟨d,e⟩ | ⟨d,e⟩
   ·rw[e] at hp
    simp only[Bool.false_eq_true,if_false] at hp
    rw[hp] at hj
    have aQ:(j:Int)∈post l ((l[k]).left.toNat+1) (l[k]).left.toNat:=by
     rcases List.mem_append.1 hj with h | h
     ·exact h
     ·simp at h;omega
    obtain⟨A,B,fE⟩:=Fe hg hf m (l[k]).left.toNat j (by omega) (by omega) aQ
    rw[hp,fE]
    exact⟨A,B++[(k:Int)],by simp⟩
   ·have gr:=gr e
    rw[e] at hp
    simp only[if_true] at hp
    rw[hp] at hj
    rcases List.mem_append.1 hj with hj | hj
    ·rcases List.mem_append.1 hj with hj | hj
     ·obtain⟨A,B,fE⟩:=Fe hg hf m (l[k]).left.toNat j (by omega) (by omega) hj
      rw[hp,fE]
      exact⟨A,B++post l ((l[k]).right.toNat+1) (l[k]).right.toNat++[(k:Int)],by simp⟩
     ·obtain⟨A,B,fE⟩:=Fe hg hf m (l[k]).right.toNat j (by omega) (by omega) hj
      rw[hp,fE]
      exact⟨post l ((l[k]).left.toNat+1) (l[k]).left.toNat++A,B++[(k:Int)],by simp⟩
    ·simp at hj;omega
theorem e1h {l:List Node} (hg:kB l) (_hf:∀ k n,l[k]?=some n→nodeFaultM n (k:Nat)=0) {k:Nat} (hk:k<l.length) {a:Int} (h:hH a (post l (k+1) k)):tW l k:=by
 intro n hn
 have hn':l[k]?=some l[k]:=by simp[hk]
 rw[hn'] at hn
 have hn:=Option.some.inj hn
 subst hn
 obtain⟨gl,gr⟩:=hg k hk
 have hp:=xW hg hn'
 refine⟨fun d=>?_,fun d e=>?_⟩
 ·have c:A3 2 (l[k]).kind=true:=by simp[A0] at d;simp[A3,d]
  have e:A5 (l[k]).kind 3 9=false:=by simp[A0] at d;simp[A5,A6,B5,d]
  have gl:=gl c
  rw[c,e] at hp
  simp only[Bool.false_eq_true,if_false,if_true] at hp
  rw[hp] at h
  obtain⟨X,hX⟩:=Je hg (k:=(l[k]).left.toNat) (by omega)
  have h1:=yD (tM h)
  rw[hX] at h h1
  have h2:=yD (tM (Hw h))
  simp at h1;omega
 ·have c:A3 2 (l[k]).kind=true:=by simp[A5,A6,B5] at e;simp[A3];omega
  have gl:=gl c
  have gr:=gr e
  rw[c,e] at hp
  simp only[if_true] at hp
  rw[hp] at h
  obtain⟨X,hX⟩:=Je hg (k:=(l[k]).left.toNat) (by omega)
  obtain⟨Y,hY⟩:=Je hg (k:=(l[k]).right.toNat) (by omega)
  have hz:sz l (l[k]).right.toNat=(post l ((l[k]).right.toNat+1) (l[k]).right.toNat).length:=rfl
  have h1:=yD (tM h)
  have h3:=Hw h
  have h4:=tM h3
  have h5:=Hw h3
  rw[hY] at h4
  rw[hX] at h5
  have h6:=yD (tM h4)
  have h7:=yD (tM h5)
  rw[hX,hY] at h1
  rw[hX] at h6
  rw[hY] at hz
  simp at h1 h6 h7 hz;omega
theorem a7f {l:List Node} (hg:kB l) (hf:∀ k n,l[k]?=some n→nodeFaultM n (k:Nat)=0):∀ (rest:List Node) (i:Nat) (sizes:List Int) (w:Bool),l.drop i=rest→sizes.length=i→(∀ k,k<i→B4 sizes k=sz l k)→
  (∀ k,k<l.length→B4 (X7 rest i sizes w).1 k=sz l k)∧((X7 rest i sizes w).2=false↔w=false∧∀ k,i≤k→k<l.length→tW l k)
 | [],i,sizes,w,h,hs,hz=>by
  have G5:l.length≤i:=by simpa using h
  refine⟨fun k hk=>hz k (by omega),?_⟩
  simp[X7]
  intro _ k hk;omega
 | n::rest,i,sizes,w,h,hs,hz=>by
  have hi:i<l.length:=by
   rcases Nat.lt_or_ge i l.length with h' | h'
   ·exact h'
   ·rw[List.drop_eq_nil_of_le h'] at h;simp at h
  rw[List.drop_eq_getElem_cons hi] at h
  obtain⟨hc,hr⟩:=List.cons.inj h
  have hn:l[i]?=some n:=by simp[hi,hc]
  have wB:=hf i n hn
  obtain⟨gl,gr⟩:=hg i hi
  rw[hc] at gl gr
  have hp:=xW hg hn
  have Sx:sz l i=(post l (i+1) i).length:=rfl
  have hz':∀ x:Int,0≤x→x<i→B4 sizes x=sz l x.toNat:=fun x h0 h1=>by
   have:=hz x.toNat (by omega)
   rw[←this];congr 1;omega
  have hsize:jG n sizes=sz l i:=by
   unfold jG
   cases c:A3 2 n.kind
   ·have c':n.kind≤2:=by simpa[A3] using c
    rw[c] at hp;simp at hp
    rw[if_neg (by simp[A0];omega),if_neg (by simp[A5,A6,B5];omega),Sx,hp];rfl
   ·have gl:=gl c
    rw[c] at hp;simp only[if_true] at hp
    rcases Rz wB c with⟨d,e⟩ | ⟨d,e⟩
    ·rw[e] at hp
     simp only[Bool.false_eq_true,if_false] at hp
     rw[if_pos d,hz' _ gl.1 gl.2,Sx,hp]
     simp[sz];omega
    ·have gr:=gr e
     rw[e] at hp
     simp only[if_true] at hp
     rw[if_neg (by simp[d]),if_pos e,hz' _ gl.1 gl.2,hz' _ gr.1 gr.2,Sx,hp]
     simp[sz];omega
  have hwrong:oH n i sizes w=false↔w=false∧tW l i:=by
   unfold oH tW
   rw[hn]
   cases d:A0 n.kind 10
   ·cases e:A5 n.kind 3 9
    ·simp[e,d]
    ·have c:A3 2 n.kind=true:=by simp[A5,A6,B5] at e;simp[A3];omega
     have gr:=gr e
     rw[hz' _ gr.1 gr.2]
     have d':¬ n.kind=10:=by simpa[A0] using d
     simp[e,d',A7,A2,A0,and_assoc]
   ·have d':n.kind=10:=by simpa[A0] using d
    simp[d',A7,A2,A0]
  have ih:=a7f hg hf rest (i+1) (sizes++[jG n sizes]) (oH n i sizes w) hr (by simp[hs]) (fun k hk=>by
   rcases Nat.lt_or_ge k i with h' | h'
   ·rw[←hz k h']
    unfold B4
    simp[List.getElem?_append,hs,h']
   ·have e:k=i:=by omega
    subst e
    rw[←hsize]
    simp[B4,hs])
  refine⟨ih.1,?_⟩
  rw[show X7 (n::rest) i sizes w=X7 rest (i+1) (sizes++[jG n sizes]) (oH n i sizes w) from rfl,ih.2,hwrong,and_assoc]
  refine and_congr_right fun _=>⟨fun ⟨h1,h2⟩ k iA N6=>?_,fun h=>⟨h i (Nat.le_refl _) hi,fun k iA N6=>h k (by omega) N6⟩⟩
  rcases Nat.lt_or_ge i k with h' | h'
  ·exact h2 k h' N6
  ·have e:k=i:=by omega
   subst e;exact h1
theorem Rn:∀ {l:List Node} {i:Nat},T0 i l=0→∀ (k:Nat) (n:Node),l[k]?=some n→nodeFaultM n (i+k:Nat)=0
 | [],i,_,k,n,h=>by simp at h
 | x::l,i,hz,k,n,h=>by
  unfold T0 at hz
  split at hz
  ·rename_i c;rw[hz] at c;simp[A2,A0] at c
  ·rename_i c
   cases k with
   | zero=>
    simp at h;subst h
    simpa[A2,A0] using c
   | succ k=>
    have:=Rn hz k n (by simpa using h)
    have e:i+1+k=i+(k+1):=by omega
    rw[←e];exact this
theorem e6x {n:Node} {i:Nat} (h:nodeFaultM n i=0):(A3 2 n.kind=true→0≤n.left∧n.left<i)∧(A5 n.kind 3 9=true→0≤n.right∧n.right<i):=by
 rw[←Ka] at h
 unfold gL at h
 split at h
 ·simp at h
 ·split at h
  ·simp at h
  ·split at h
   ·simp at h
   ·split at h
    ·simp at h
    ·rename_i c
     simp[A7,A6,A2,A5,B5] at c
     obtain⟨c1,c2⟩:=c
     refine⟨fun h=>?_,fun h=>?_⟩
     ·simp[A3] at h
      have:=c1 h;omega
     ·simp[A5,A6,B5] at h
      have:=c2 h.1 h.2;omega
theorem Wc (l:List Node):aK l=bI l:=by
 unfold aK bI
 by_cases hl:1≤l.length∧l.length≤16
 ·have e1:A7 (A3 l.length 1) (A3 16 l.length)=false:=by simp[A7,A3];omega
  have e2:A2 (A5 l.length 1 16)=false:=by simp[A2,A5,A6,B5];omega
  rw[e1,e2,b3t]
  simp only[Bool.false_eq_true,if_false]
  by_cases hz:T0 0 l=0
  ·have hf:∀ k n,l[k]?=some n→nodeFaultM n (k:Nat)=0:=fun k n h=>by
    have:=Rn hz k n h;simpa using this
   have hg:kB l:=fun k hk=>e6x (hf k l[k] (by simp[hk]))
   obtain⟨w1,w2⟩:=a7f hg hf l 0 [] false rfl rfl (fun k hk=>by omega)
   have fA:l.length - 1<l.length:=by omega
   have eG:post l l.length (l.length - 1)=post l (l.length - 1+1) (l.length - 1):=xZ hg _ _ _ (by omega) (by omega)
   have C7:sz l (l.length - 1)=(post l (l.length - 1+1) (l.length - 1)).length:=rfl
   have hq:¬ (A2 (A0 (T0 0 l) 0)=true):=by simp[A2,A0,hz]
   rw[if_neg hq,if_neg hq]
   have ez:B4 (X7 l 0 [] false).1 ((l.length:Int) - 1)=sz l (l.length - 1):=by
    rw[←w1 _ fA];congr 1;omega
   rw[ez]
   by_cases ok:(∀ k,k<l.length→tW l k)∧sz l (l.length - 1)=l.length
   ·obtain⟨ok1,ok2⟩:=ok
    have hr:=Ib hg hf ok1 l.length (l.length - 1) fA fA
    have ho:bP l=post l (l.length - 1+1) (l.length - 1):=by
     unfold bP
     rw[If l _ _ _ (by rw[eG];simp;omega),eG];rfl
    have e3:(X7 l 0 [] false).2=false:=w2.2 ⟨rfl,fun k _ h=>ok1 k h⟩
    have e5:(bP l).length=l.length:=by rw[ho];omega
    have e4:fQ 0 (bP l)=true:=by
     rw[Km,ho]
     have:(((l.length - 1:Nat):Int)+1 - sz l (l.length - 1))=((0:Nat):Int):=by omega
     rw[←this];exact hr
    simp[e3,e4,e5,ok2,A7,A2,A0]
   ·have e3:A7 (X7 l 0 [] false).2 (A2 (A0 (sz l (l.length - 1)) (l.length:Int)))=true:=by
     unfold A7 A2 A0
     cases hw:(X7 l 0 [] false).2
     ·simp
      intro h
      exact ok ⟨fun k hk=>(w2.1 hw).2 k (by omega) hk,h⟩
     ·rfl
    refine Eq.trans ?_ (if_pos e3).symm
    by_cases c:(bP l).length=l.length
    rotate_left
    ·rw[if_pos (by simp[A2,A0];omega)]
    ·rw[if_neg (by simp[A2,A0,c]),if_neg]
     intro hi
     have ho:bP l=post l (l.length - 1+1) (l.length - 1):=by
      unfold bP at c ⊢
      rw[Il l _ _ _ (by omega),eG];rfl
     rw[Km,ho] at hi
     have B9:∀ k,k<l.length→tW l k:=fun k hk=>by
      have hm:(k:Int)∈post l (l.length - 1+1) (l.length - 1):=by
       have N6:k<(post l (l.length - 1+1) (l.length - 1)).length:=by rw[←ho];omega
       have:=hi k _ (List.getElem?_eq_getElem N6)
       simp at this
       rw[←this];exact List.getElem_mem _
      obtain⟨A,B,fE⟩:=Fe hg hf l.length (l.length - 1) k fA fA hm
      rw[fE] at hi
      exact e1h hg hf hk (tM (Hw hi))
     exact ok ⟨B9,by rw[C7,←ho,c]⟩
  ·have:A2 (A0 (T0 0 l) 0)=true:=by simp[A2,A0,hz]
   simp[this]
 ·have e1:A7 (A3 l.length 1) (A3 16 l.length)=true:=by simp[A7,A3];omega
  have e2:A2 (A5 l.length 1 16)=true:=by simp[A2,A5,A6,B5];omega
  simp[e1,e2]
end Go.TM.Ft
