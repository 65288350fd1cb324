/- What functions of the program come to, by the machine. -/
import Derived.Test.YtlmiemdojgahaaaGreatKL8
import Derived.Test.YtlmiemdojgahaaaGreatKL6
import Derived.Test.YtlmiemdojgahaaaGreatKL4
set_option linter.unusedSimpArgs false
set_option linter.unusedVariables false
set_option maxHeartbeats 4000000
namespace Go.TM.Ft
open Go Go.TM Go.Proofs Go.Proofs.Tryz
set_option maxRecDepth 20000
attribute [local congr] M0
attribute [local simp] K2 K6 J4 K3 H7 J9 H8 G9 J1 G3
theorem K8 {l:List Int} {k:Nat} (h:k < l.length):A4 l (k:Int)=l[k]:=a0b h
theorem h4t {l:List Node} {k:Nat} {n:Node} (h:l[k]?=some n):kindN l (k:Int)=n.kind:=by simp [kindN,h]
structure Vals (l:List Node) (i:Nat) (acc:List Int):Prop where
 len:acc.length=i
 rng:∀ (k:Nat) (h:k < acc.length),-1000000≤acc[k]∧acc[k]≤1000000
 bool:∀ (k:Nat) (h:k < acc.length),(partB (kindN l (k:Int))).2=2→acc[k]=0∨acc[k]=1
theorem i5j {v:Int} (h:badV v=false):-1000000≤v∧v≤1000000:=by
 unfold badV at h
 have:inR v (-1000000) 1000000=true:=by cases e:inR v (-1000000) 1000000 <;> simp [A0,e] at h ⊢
 simp [inR,A1,leI] at this
 exact this
theorem f6s (a b:Int):N9 10 a b=1 - a:=rfl
theorem h1h {k:Int} (h:(partB k).2=2):7≤k:=by
 unfold partB at h
 simp [leI] at h
 split at h
 ·simp at h
 ·omega
theorem Vals.next {l:List Node} (ok:ExprOk l) {i:Nat} {acc vars:List Int} (h:Vals l i acc) (hi:i < l.length) (hb:badV (Q9 vars acc l[i])=false):Vals l (i+1) (acc++[Q9 vars acc l[i]]):=by
 have hl:=h.len
 refine ⟨by simp [hl],fun k hk=>?_,fun k hk=>?_⟩
 ·simp at hk
  rcases Nat.lt_or_ge k acc.length with h' | h'
  ·rw [List.getElem_append_left h']; exact h.rng k h'
  ·have e:k=acc.length:=by omega
   subst e
   simp; exact i5j hb
 ·intro hp
  simp at hk
  rcases Nat.lt_or_ge k acc.length with h' | h'
  ·rw [List.getElem_append_left h']; exact h.bool k h' hp
  ·have e:k=i:=by omega
   subst e
   have hn:l[k]?=some l[k]:=List.getElem?_eq_getElem hi
   rw [h4t hn] at hp
   have h7:=h1h hp
   have hval:Q9 vars acc l[k]=N9 (l[k]).kind (A4 acc (l[k]).left) (A4 acc (l[k]).right):=by
    unfold Q9
    rw [if_neg (by simp [eqI]; omega),if_neg (by simp [eqI]; omega)]
   have e:(acc++[Q9 vars acc l[k]])[k]'(by simp; omega)=Q9 vars acc l[k]:=by
    rw [List.getElem_append_right (by omega)]; simp
   rw [e,hval]
   have bl:∀ x:Int,0≤x→x≤(k:Int) - 1→(partB (kindN l x)).2=2→A4 acc x=0∨A4 acc x=1:=by
    intro x h0 h1 h2
    obtain ⟨y,rfl⟩:=Int.eq_ofNat_of_zero_le h0
    rw [K8 (by omega)]
    exact h.bool y (by omega) h2
   rcases b7f (ok.node k _ hn) with q | q | q | q
   ·omega
   ·omega
   ·rw [q.1,f6s]
    have t:=(ok.typ k _ hn (by omega)).1
    rw [q.1] at t
    rcases bl _ q.2.2.1 q.2.2.2 t with e | e <;> rw [e] <;> simp
   ·by_cases k7:(l[k]).kind=7
    ·rw [k7]; simpa [N9,eqI] using g2r _
    by_cases k8:(l[k]).kind=8
    ·rw [k8]; simpa [N9,eqI] using g2r _
    have k9:(l[k]).kind=9:=by omega
    have t:=ok.typ k _ hn (by omega)
    rw [k9] at t ⊢
    have b1:=bl _ q.2.2.1 q.2.2.2.1 t.1
    have b2:=bl _ q.2.2.2.2.1 q.2.2.2.2.2 (t.2 (by omega))
    rcases b1 with e | e <;> rcases b2 with e2 | e2 <;> rw [e,e2] <;> simp [N9,eqI]
abbrev evS (l:List Node) (vars:List Int) (i:Nat) (acc:List Int):St:=
 ⟨77,[(1,iS vars),(6,.ref 6 1 [] 0 acc.length),(12,nS 219 l),(13,vI l.length),(14,vI i)],[(6,⟨1,1,false,[.own 2 (iE acc)]⟩)],2⟩
theorem i6r (l:List Node) (ok:ExprOk l) (vars:List Int) (hv:vars.length=4):
  b1o 0 (fun acc=>⟨77,[(1,iS vars),(6,.ref 6 1 [] 0 acc.length),(12,nS 219 l),(13,vI l.length),(14,vI l.length),(15,vB false)],[(6,⟨1,1,false,[.own 2 (iE acc)]⟩)],2⟩)
   (fun _ st=>∃ rt,st=⟨77,[(4,vI 0),(5,vB false)],rt,2⟩) (A6 E (orc E) (238:Nat) (l.length+1) (A8 f238 0) (evS l vars 0 [])) (O4 (evG vars) 0 [] l):=by
 have hle:=ok.le
 refine b4v (f:=238) (id:=0) (code:=A8 f238 0) l (Vals l) (evS l vars) (evG vars) _ _ ?_ ?_ l 0 [] rfl (Nat.zero_le _) ⟨rfl,fun k h=>by simp at h,fun k h=>by simp at h⟩
 ·intro k s _
  have hlt:=a2m l.length
  simp +contextual -dsimp [f238,hlt]
 ·intro k i acc hi hI
  have hn:l[i]?=some l[i]:=List.getElem?_eq_getElem hi
  have hal:=hI.len
  have hlt:=P7 hi
  have hw:=P1 hi (by omega)
  have hm1:acc.length+1≤C2:=by unfold C2; omega
  unfold evG b9c
  generalize hc:l[i]=n at *
  have nk:=b7f (ok.node i n hn)
  have nx:badV (Q9 vars acc n)=false→Vals l (i+1) (acc++[Q9 vars acc n]):=fun hb=>by
   have:=hI.next ok hi (vars:=vars)
   rw [hc] at this
   exact this hb
  generalize hnv:Q9 vars acc n=v at *
  have hin:inR v (-1000000) 1000000=A0 (badV v):=by simp [badV,A0]
  by_cases k1:n.kind=1
  ·have ev:v=n.value:=by rw [← hnv]; simp [Q9,k1,eqI]
   have ez:O0 n.kind (A4 acc n.right)=false:=by simp [O0,k1,eqI,A1]
   rw [← ev] at nk
   cases hb:badV v
   ·refine ⟨fun s' hs=>?_,fun e he=>by simp [ez,hb,orB] at he⟩
    simp [ez,hb,orB] at hs
    subst hs
    refine ⟨?_,nx hb⟩
    rw [hb] at hin
    simp (maxSteps:=1000000) +contextual -dsimp [f238,G1,a2i,hlt,hi,hc,hw,hm1,k1,← ev,hin,show eqI 1 2=false from rfl,show eqI 1 10=false from rfl,show inR 1 3 9=false from rfl,List.set]
   ·exfalso
    simp [badV,A0,inR,A1,leI] at hb
    omega
  by_cases k2:n.kind=2
  ·obtain ⟨m,hm⟩:=Int.eq_ofNat_of_zero_le (show 0≤n.value by omega)
   have hml:m < vars.length:=by omega
   have ev:v=vars[m]:=by rw [← hnv]; unfold Q9; rw [if_neg (by simp [k2,eqI]),if_pos (by simp [k2,eqI]),hm,K8 hml]
   have ez:O0 n.kind (A4 acc n.right)=false:=by simp [O0,k2,eqI,A1]
   cases hb:badV v
   ·refine ⟨fun s' hs=>?_,fun e he=>by simp [ez,hb,orB] at he⟩
    simp [ez,hb,orB] at hs
    subst hs
    refine ⟨?_,nx hb⟩
    rw [hb] at hin
    simp (maxSteps:=1000000) +contextual -dsimp [f238,G1,a2i,hlt,hi,hc,hw,hm1,k2,hm,hml,← ev,hin,B7,List.set]
   ·refine ⟨fun s' hs=>by simp [hb,orB] at hs,fun e he=>⟨_,?_,[(6,⟨1,1,false,[.own 2 (iE acc)]⟩)],rfl⟩⟩
    rw [hb] at hin
    simp (maxSteps:=1000000) +contextual -dsimp [f238,G1,a2i,hlt,hi,hc,hw,hm1,k2,hm,hml,← ev,hin,B7,List.set]
  by_cases k10:n.kind=10
  ·obtain ⟨m,hm⟩:=Int.eq_ofNat_of_zero_le (show 0≤n.left by omega)
   have hml:m < acc.length:=by omega
   have hr:=hI.rng m hml
   have hw2:IntKind.i64.wrap (1 - acc[m])=1 - acc[m]:=by rw [A5] <;> omega
   have ev:v=1 - acc[m]:=by rw [← hnv]; unfold Q9; rw [if_neg (by simp [k10,eqI]),if_neg (by simp [k10,eqI]),k10,f6s,hm,K8 hml]
   rw [← ev] at hw2
   have ez:O0 n.kind (A4 acc n.right)=false:=by simp [O0,k10,eqI,A1]
   cases hb:badV v
   ·refine ⟨fun s' hs=>?_,fun e he=>by simp [ez,hb,orB] at he⟩
    simp [ez,hb,orB] at hs
    subst hs
    refine ⟨?_,nx hb⟩
    rw [hb] at hin
    simp (maxSteps:=1000000) +contextual -dsimp [f238,G1,a2i,hlt,hi,hc,hw,hm1,k10,hm,hml,← ev,hw2,hin,B7,show eqI 10 2=false from rfl,List.set]
   ·refine ⟨fun s' hs=>by simp [hb,orB] at hs,fun e he=>⟨_,?_,[(6,⟨1,1,false,[.own 2 (iE acc)]⟩)],rfl⟩⟩
    rw [hb] at hin
    simp (maxSteps:=1000000) +contextual -dsimp [f238,G1,a2i,hlt,hi,hc,hw,hm1,k10,hm,hml,← ev,hw2,hin,B7,show eqI 10 2=false from rfl,List.set]
  have k39:3≤n.kind∧n.kind≤9:=by omega
  obtain ⟨a,ha⟩:=Int.eq_ofNat_of_zero_le (show 0≤n.left by omega)
  obtain ⟨b,hb⟩:=Int.eq_ofNat_of_zero_le (show 0≤n.right by omega)
  have hal2:a < acc.length:=by omega
  have hbl2:b < acc.length:=by omega
  have ra:=hI.rng a hal2
  have rb:=hI.rng b hbl2
  have hk39:inR n.kind 3 9=true:=by simp [inR,A1,leI]; exact k39
  have e2:eqI n.kind 2=false:=by simp [eqI]; omega
  have e10:eqI n.kind 10=false:=by simp [eqI]; omega
  have ev:v=N9 n.kind acc[a] acc[b]:=by rw [← hnv]; unfold Q9; rw [if_neg (by simp [eqI]; omega),if_neg (by simp [eqI]; omega),ha,hb,K8 hal2,K8 hbl2]
  have ez:O0 n.kind (A4 acc n.right)=A1 (eqI n.kind 6) (eqI acc[b] 0):=by rw [hb,K8 hbl2]; rfl
  have g:=h4s n.kind acc[a] acc[b] ra.1 ra.2 rb.1 rb.2 k39 (fun h9=>by
   have t:=ok.typ i n hn (by omega)
   rw [h9,ha,hb] at t
   exact ⟨hI.bool a hal2 t.1,hI.bool b hbl2 (t.2 (by omega))⟩)
  unfold rkM at g
  rw [← ev,← ez] at g
  cases hz:O0 n.kind (A4 acc n.right)
  ·rw [hz,if_neg (by simp)] at g
   cases hbv:badV v
   ·refine ⟨fun s' hs=>?_,fun e he=>by simp [hbv,orB] at he⟩
    simp [hbv,orB] at hs
    subst hs
    refine ⟨?_,nx hbv⟩
    rw [hbv] at hin
    simp (maxSteps:=1000000) +contextual -dsimp [f238,G1,a2i,hlt,hi,hc,hw,hm1,ha,hb,hal2,hbl2,e2,e10,hk39,g,hin,List.set]
   ·refine ⟨fun s' hs=>by simp [hbv,orB] at hs,fun e he=>⟨_,?_,[(6,⟨1,1,false,[.own 2 (iE acc)]⟩)],rfl⟩⟩
    rw [hbv] at hin
    simp (maxSteps:=1000000) +contextual -dsimp [f238,G1,a2i,hlt,hi,hc,hw,hm1,ha,hb,hal2,hbl2,e2,e10,hk39,g,hin,List.set]
  ·rw [hz,if_pos rfl] at g
   refine ⟨fun s' hs=>by simp [orB] at hs,fun e he=>⟨_,?_,[(6,⟨1,1,false,[.own 2 (iE acc)]⟩)],rfl⟩⟩
   simp (maxSteps:=1000000) +contextual -dsimp [f238,G1,a2i,hlt,hi,hc,hw,hm1,ha,hb,hal2,hbl2,e2,e10,hk39,g,List.set]
def RE (o:Option Int):Res:=match o with | some v=>R2 (vI v) (vB true) | none=>R2 (vI 0) (vB false)
theorem b9w {vars:List Int}:∀ {l:List Node} {i:Nat} {acc a:List Int},O4 (evG vars) i acc l=.inr a→a.length=acc.length+l.length
 | [],i,acc,a,h=>by simp only [O4,Sum.inr.injEq] at h; subst h; rfl
 | n::l,i,acc,a,h=>by
  unfold O4 evG at h
  split at h
  ·rename_i s hs
   split at hs
   ·simp at hs
   ·simp only [Sum.inr.injEq] at hs; subst hs
    rw [b9w h]; simp; omega
  ·simp at h
theorem f6t {vars:List Int}:∀ {l:List Node} {i:Nat} {acc a:List Int},(∀ x,x∈acc→badV x=false)→O4 (evG vars) i acc l=.inr a→∀ x,x∈a→badV x=false
 | [],i,acc,a,h0,h=>by simp only [O4,Sum.inr.injEq] at h; subst h; exact h0
 | n::l,i,acc,a,h0,h=>by
  unfold O4 evG at h
  split at h
  ·rename_i s hs
   split at hs
   ·simp at hs
   ·rename_i hb
    simp only [Sum.inr.injEq] at hs; subst hs
    refine f6t (fun x hx=>?_) h
    rcases List.mem_append.1 hx with hx | hx
    ·exact h0 x hx
    ·rw [List.mem_singleton.1 hx]
     cases q:badV (Q9 vars acc n)
     ·rfl
     ·simp [b9c,q,orB] at hb
  ·simp at h
theorem c3s {l:List Node} (ok:ExprOk l) {vars:List Int} {v:Int} (h:a3h l vars=some v):badV v=false:=by
 unfold a3h at h
 split at h
 ·rename_i acc hq
  simp only [Option.some.injEq] at h
  subst h
  have hl:=b9w hq
  have hp:=ok.pos
  simp at hl
  have e:((l.length:Int) - 1)=((l.length - 1:Nat):Int):=by omega
  rw [e,K8 (by omega)]
  exact f6t (by simp) hq _ (List.getElem_mem _)
 ·simp at h
theorem g1m (l:List Node) (ok:ExprOk l) (vars:List Int) (hv:vars.length=4):fo 238 [A (nS 219 l),A (iS vars)]=some (RE (a3h l vars)):=by
 have hlp:=i6r l ok vars hv
 have hpos:=ok.pos
 have hle:=ok.le
 refine h8y (l.length+1) ?_
 unfold a3h
 cases q:O4 (evG vars) 0 [] l with
 | inl e=>
  rw [q] at hlp
  obtain ⟨_,hlp,rt,rfl⟩:=hlp
  simp -dsimp [f238,evS,iE] at hlp
  simp (maxSteps:=1000000) +contextual -dsimp [f238,hlp,RE,List.set]
 | inr acc=>
  rw [q] at hlp
  unfold b1o at hlp
  simp -dsimp [f238,evS,iE] at hlp
  have hlen:=b9w q
  simp at hlen
  have hlt:l.length - 1 < acc.length:=by omega
  have hw:IntKind.i64.wrap ((acc.length:Int) - 1)=((l.length - 1:Nat):Int):=by rw [A5] <;> omega
  have e1:A4 acc ((l.length:Int) - 1)=acc[l.length - 1]:=by
   have:((l.length:Int) - 1)=((l.length - 1:Nat):Int):=by omega
   rw [this,K8 hlt]
  simp (maxSteps:=1000000) +contextual -dsimp [f238,hlp,hw,hlt,e1,RE,List.set]
end Go.TM.Ft
namespace Go.TM.Ft
open Go Go.TM Go.Proofs Go.Proofs.Tryz
set_option maxRecDepth 20000
structure Wf (l:List Step):Prop where
 ok:ProcOk l
 one:∀ (k:Nat) (s:Step),l[k]?=some s→one4M l k s=0
 typ:procC l=0
theorem i6s {l:List Step} (h:P6 l=0):Wf l:=by
 have ok:=b8z h
 have h4:V6 l=0:=by rw [c2k]; exact h
 unfold V6 at h4
 split at h4
 ·simp at h4
 split at h4
 ·rename_i c2
  split at h4
  ·rename_i c3
   exact ⟨ok,fun k s hs=>by have:=b9a (by simpa [eqI] using c2) k s hs; simpa using this,by rw [← c3p]; exact h4⟩
  ·rename_i c3; rw [h4] at c3; simp [eqI] at c3
 ·rename_i c2; rw [h4] at c2; simp [eqI] at c2
theorem d5k {l:List Node}:∀ (r:List Node) (i:Nat) (acc:List Int),l.drop i=r→acc.length=i→(∀ k,k < i→acc[k]?=(l[k]?).map fun n=>(partB n.kind).2)→(L4 r acc).1=true→
  (L4 r acc).2=acc++r.map (fun n=>(partB n.kind).2)∧∀ (k:Nat) (n:Node),i≤k→l[k]?=some n→a7d n ((L4 r acc).2.take k)=false
 | [],i,acc,hd,ha,_,ht=>by
  refine ⟨by simp [L4],fun k n hk hn=>?_⟩
  have:l.length≤i:=List.drop_eq_nil_iff.1 hd
  rw [List.getElem?_eq_none (by omega)] at hn; simp at hn
 | x::r,i,acc,hd,ha,hp,ht=>by
  obtain ⟨hi,hc,hr⟩:=C6 hd
  unfold L4 at ht ⊢
  split at ht
  ·simp at ht
  ·rename_i hb
   rw [if_neg hb]
   have hb':a7d x acc=false:=by simpa using hb
   obtain ⟨g1,g2⟩:=d5k (l:=l) r (i+1) (acc++[(partB x.kind).2]) hr (by simp [ha]) (fun k hk=>by
    rcases Nat.lt_or_ge k i with h | h
    ·rw [List.getElem?_append_left (by omega)]; exact hp k h
    ·have e:k=i:=by omega
     subst e
     rw [List.getElem?_append_right (by omega),List.getElem?_eq_getElem hi,hc]
     simp [ha]) ht
   refine ⟨by rw [g1]; simp,fun k n hk hn=>?_⟩
   rcases Nat.lt_or_ge i k with h | h
   ·exact g2 k n h hn
   ·have e:k=i:=by omega
    subst e
    rw [List.getElem?_eq_getElem hi,hc] at hn
    simp only [Option.some.injEq] at hn
    subst hn
    rw [g1,List.append_assoc,List.take_append_of_le_length (by omega),List.take_of_length_le (by omega)]
    exact hb'
theorem f6u {l:List Node} {want:Int} (hne:l≠[]) (h:U3 l want=0):ExprOk l:=by
 unfold U3 at h
 split at h
 ·rename_i c
  simp [eqI] at c
  exact absurd c hne
 obtain ⟨h1,h2⟩:=O1 h
 unfold a2c at h1
 split at h1
 ·rename_i c; simp only at h1; rw [h1] at c; simp [A0,eqI] at c
 rename_i c0
 have e0:a0h l=0:=by simpa [A0,eqI] using c0
 obtain ⟨g1,g2,g3⟩:=d6n e0
 split at h1
 ·rename_i c1
  obtain ⟨t1,t2⟩:=d5k (l:=l) l 0 [] rfl rfl (fun k h=>by omega) c1
  have nd:∀ (k:Nat) (n:Node),l[k]?=some n→nodeFaultM n (k:Nat)=0:=fun k n hn=>by have:=c3a g3 k n hn; simpa using this
  refine ⟨g1,g2,nd,fun k n hn hk=>?_⟩
  have hb:=t2 k n (Nat.zero_le _) hn
  have hkl:k < l.length:=by
   rcases Nat.lt_or_ge k l.length with h | h
   ·exact h
   ·rw [List.getElem?_eq_none h] at hn; simp at hn
  have at_:∀ x:Int,0≤x→x≤(k:Int) - 1→A4 ((L4 l []).2.take k) x=(partB (kindN l x)).2:=by
   intro x hx0 hx1
   obtain ⟨y,rfl⟩:=Int.eq_ofNat_of_zero_le hx0
   have hy:y < k:=by omega
   have hyl:y < l.length:=by omega
   rw [t1]
   simp [A4,List.getElem?_take,hy,kindN,hyl]
  unfold a7d at hb
  have nk:=b7f (nd k n hn)
  have hk2:ltI 2 n.kind=true:=by simp [ltI]; exact hk
  rw [hk2] at hb
  rcases nk with q | q | q | q
  ·omega
  ·omega
  ·rw [at_ _ q.2.2.1 q.2.2.2] at hb
   have e39:inR n.kind 3 9=false:=by rw [q.1]; rfl
   rw [e39] at hb
   simp [orB,A1,A0,eqI] at hb
   exact ⟨hb,fun h=>by omega⟩
  ·rw [at_ _ q.2.2.1 q.2.2.2.1,at_ _ q.2.2.2.2.1 q.2.2.2.2.2] at hb
   have e39:inR n.kind 3 9=true:=by simp [inR,A1,leI]; omega
   rw [e39] at hb
   simp [orB,A1,A0,eqI] at hb
   exact ⟨hb.1,fun _=>hb.2⟩
 ·simp at h1
theorem c5n:∀ {l:List Step},procC l=0→∀ s,s∈l→U3 s.cond 2=0∧U3 s.expr 1=0
 | [],_,s,h=>by simp at h
 | x::l,hz,s,h=>by
  unfold procC at hz
  split at hz
  ·rename_i c; rw [hz] at c; simp [A0,eqI] at c
  ·rename_i c
   rcases List.mem_cons.1 h with rfl | h
   ·exact O1 (by simpa [A0,eqI] using c)
   ·exact c5n hz s h
theorem b4w {l:List Step} {i:Nat} {s:Step} (h:one4M l i s=0):
  1≤s.kind∧s.kind≤8∧a8j s=true∧a1p s i=false∧(0 < i→a9u l i=true)∧a8k l i≤7∧W6 s.kind s.arg=true∧(s.kind=7→U9 s.expr=0):=by
 unfold one4M at h
 split at h
 ·simp at h
 rename_i c1
 split at h
 ·simp at h
 rename_i c2
 split at h
 ·simp at h
 rename_i c3
 split at h
 ·simp at h
 rename_i c4
 have hk:inR s.kind 1 8=true∧a8j s=true:=by
  cases a:inR s.kind 1 8 <;> cases b:a8j s <;> simp [a,b,orB,A0] at c1 ⊢
 have hk1:1≤s.kind∧s.kind≤8:=by have:=hk.1; simp [inR,A1,leI] at this; exact this
 have tl:a6x s=0→W6 s.kind s.arg=true∧(s.kind=7→U9 s.expr=0):=by
  intro ht
  unfold a6x at ht
  split at ht
  ·simp at ht
  ·rename_i d
   refine ⟨by simpa [A0] using d,fun h7=>?_⟩
   rw [if_pos (by simp [eqI,h7])] at ht
   exact ht
 have ht:a6x s=0:=by
  split at h
  ·split at h
   ·rename_i d; rw [h] at d; simp [A0,eqI] at d
   ·exact h
  ·exact h
 obtain ⟨t1,t2⟩:=tl ht
 refine ⟨hk1.1,hk1.2,hk.2,by simpa using c2,fun h0=>?_,by simp [ltI] at c4; omega,t1,t2⟩
 have:ltI 0 (i:Int)=true:=by simp [ltI]; omega
 rw [this] at c3
 simpa [A1,A0] using c3
section
variable {l:List Step}
theorem Wf.at (w:Wf l) {k:Nat} (h:k < l.length):one4M l k l[k]=0:=w.one k _ (List.getElem?_eq_getElem h)
theorem a7l {k:Nat} (h:k < l.length):A9 l (k:Int)=(l[k]).kind:=by simp [A9,h]
theorem a9a {k:Nat} (h:k < l.length):parOf l k=(l[k]).parent:=by simp [parOf,h]
theorem Wf.kind (w:Wf l) {k:Nat} (h:k < l.length):1≤(l[k]).kind∧(l[k]).kind≤8:=⟨(b4w (w.at h)).1,(b4w (w.at h)).2.1⟩
theorem Wf.cond (w:Wf l) {s:Step} (hs:s∈l) (hne:s.cond≠[]):ExprOk s.cond:=f6u hne (c5n w.typ s hs).1
theorem Wf.expr (w:Wf l) {k:Nat} (h:k < l.length) (h7:(l[k]).kind=7):ExprOk (l[k]).expr∧0≤(l[k]).arg∧(l[k]).arg≤3:=by
 have p:=b4w (w.at h)
 have hx:=p.2.2.2.2.2.2.2 h7
 refine ⟨f6u (want:=1) (fun e=>?_) (c5n w.typ _ (List.getElem_mem h)).2,?_⟩
 ·rw [e] at hx; simp [U9,orB,ltI] at hx
 ·have:=p.2.2.2.2.2.2.1
  rw [h7] at this
  simp [W6,eqI,inR,A1,leI] at this
  exact this
theorem Wf.par (w:Wf l) {k:Nat} (h:k < l.length) (h0:0 < k):∃ q:Nat,parOf l k=q∧q < k:=by
 obtain ⟨a,h1,h2⟩:=w.ok.par k h h0
 exact ⟨a,by rw [a9a h,h1],h2⟩
theorem Wf.par0 (w:Wf l):parOf l 0=-1:=by
 have h:0 < l.length:=by have:=w.ok.pos; omega
 rw [a9a h]; exact w.ok.par0 h
inductive Und (l:List Step) (a:Nat):Nat→Prop
 | self:Und l a a
 | up {i q:Nat}:i < l.length→parOf l i=(q:Int)→q < i→Und l a q→Und l a i
theorem Und.le {a i:Nat} (h:Und l a i):a≤i:=by
 induction h with
 | self=>exact Nat.le_refl _
 | up _ _ h2 _ ih=>omega
theorem Und.trans {a b c:Nat} (h1:Und l a b) (h2:Und l b c):Und l a c:=by
 induction h2 with
 | self=>exact h1
 | up g1 g2 g3 _ ih=>exact .up g1 g2 g3 ih
theorem Und.down {a i q:Nat} (h:Und l a i) (hn:a≠i) (hp:parOf l i=(q:Int)):Und l a q:=by
 cases h with
 | self=>exact absurd rfl hn
 | up g1 g2 g3 g4=>
  rw [hp] at g2
  have:q=_:=Int.ofNat.inj g2
  rw [this]; exact g4
theorem Und.both {a b i:Nat} (h1:Und l a i) (h2:Und l b i) (hab:b≤a):Und l b a:=by
 induction h1 with
 | self=>exact h2
 | @up j _ g1 g2 g3 g4 ih=>
  by_cases e:b=j
  ·have:=g4.le; omega
  ·exact ih (h2.down e g2)
theorem Wf.root (w:Wf l):∀ {i:Nat},i < l.length→Und l 0 i:=by
 intro i
 induction i using Nat.strongRecOn with
 | ind i ih=>
  intro hi
  rcases Nat.eq_zero_or_pos i with h | h
  ·subst h; exact .self
  ·obtain ⟨q,h1,h2⟩:=w.par hi h
   exact .up hi h1 h2 (ih q h2 (by omega))
theorem Wf.ahead (w:Wf l) {i:Nat}:Ahead l i:=fun k hk _=>by
 rcases Nat.eq_zero_or_pos k with h | h
 ·subst h
  have:=w.ok.par0 hk
  omega
 ·obtain ⟨q,h1,h2⟩:=w.ok.par k hk h
  omega
def dep (l:List Step) (i:Nat):Int:=a8k l i
theorem Wf.dep_up (w:Wf l) {i q:Nat} (hi:i < l.length) (hp:parOf l i=(q:Int)) (hq:q < i):dep l i=dep l q+1:=by
 unfold dep a8k
 conv=>lhs; unfold deepM
 rw [if_pos (by simp [leI])]
 simp only [Int.toNat_natCast,hp]
 rw [c3n (l:=l) (i:=l.length) (Nat.le_refl _) w.ahead (i+1) (q+2) q (by omega) (by omega) (by omega) (by omega)]
 omega
theorem Und.dep (w:Wf l) {a i:Nat} (h:Und l a i):Ft.dep l a≤Ft.dep l i∧(a≠i→Ft.dep l a < Ft.dep l i):=by
 induction h with
 | self=>exact ⟨Int.le_refl _,fun h=>absurd rfl h⟩
 | up g1 g2 g3 _ ih=>
  rw [w.dep_up g1 g2 g3]
  omega
theorem e2c (w:Wf l) {p:Nat}:∀ (f:Nat) (i:Int),i < l.length→Q8 l p f i=true→∃ j:Nat,i=j∧Und l p j
 | 0,i,_,h=>by simp [Q8] at h
 | f+1,i,hi,h=>by
  unfold Q8 at h
  split at h
  ·rename_i c
   obtain ⟨j,rfl⟩:=Int.eq_ofNat_of_zero_le (show 0≤i by simpa [leI] using c)
   split at h
   ·rename_i d
    have:(j:Int)=p:=by simpa [eqI] using d
    have:j=p:=Int.ofNat.inj this
    subst this
    exact ⟨j,rfl,.self⟩
   ·have hj:j < l.length:=by omega
    rw [Int.toNat_natCast] at h
    have hpl:parOf l j < l.length:=by
     rcases Nat.eq_zero_or_pos j with h' | h'
     ·subst h'; rw [w.par0]; omega
     ·obtain ⟨q,h1,h2⟩:=w.par hj h'; omega
    obtain ⟨q,h1,h2⟩:=e2c w f (parOf l j) hpl h
    rcases Nat.eq_zero_or_pos j with h' | h'
    ·subst h'; rw [w.par0] at h1; omega
    ·obtain ⟨q',h3,h4⟩:=w.par hj h'
     have:q=q':=by omega
     subst this
     exact ⟨j,rfl,.up hj h3 h4 h2⟩
  ·simp at h
theorem Wf.before (w:Wf l) {i q:Nat} (hi:i < l.length) (h0:0 < i) (hp:parOf l i=(q:Int)):Und l q (i - 1):=by
 have hl:=(b4w (w.at hi)).2.2.2.2.1 h0
 unfold a9u at hl
 rw [hp] at hl
 obtain ⟨j,h1,h2⟩:=e2c w _ _ (by omega) hl
 have:j=i - 1:=by omega
 rw [← this]; exact h2
theorem Wf.piece (w:Wf l) {a i:Nat} (hi:i < l.length) (h:Und l a i) (hn:a < i):Und l a (i - 1)∧dep l a < dep l i:=by
 obtain ⟨q,h1,h2⟩:=w.par hi (by omega)
 have hq:=h.down (by omega) h1
 exact ⟨hq.trans (w.before hi (by omega) h1),(h.dep w).2 (by omega)⟩
theorem Wf.piece2 (w:Wf l) {a i:Nat} (hi:i < l.length) (hn:a < i) (hb:Und l a (i - 1)) (hd:dep l a < dep l i):Und l a i:=by
 obtain ⟨q,h1,h2⟩:=w.par hi (by omega)
 have hq:=w.before hi (by omega) h1
 rcases Nat.lt_or_ge q a with h | h
 ·have:=(hb.both hq (by omega)).dep w
  rw [w.dep_up hi h1 h2] at hd
  omega
 ·exact .up hi h1 h2 (hq.both hb h)
theorem Wf.between (w:Wf l) {a i:Nat} (hi:i < l.length) (h:Und l a i):∀ (n j:Nat),j+n=i→a≤j→Und l a j
  | 0, j, e, _ => by have : j = i := by omega
                     rw [this]; exact h
  | n+1,j,e,ha=>by
    have h1:=Wf.between w hi h n (j+1) (by omega) (by omega)
    have:=(w.piece (i:=j+1) (by omega) h1 (by omega)).1
    simpa using this
end
attribute [local congr] M0
attribute [local simp] K2 K6 J4 K3 H7 J9 H8 G9 J1 G3
def a3l (l:List Step) (a:Int):Nat→Int→Int
 | 0,i=>i
 | f+1,i=>if ltI a i=true then a3l l a f (parOf l i.toNat) else i
def a6e (l:List Step) (a i:Nat):Bool:=eqI (a3l l a (i+1) i) a
theorem g2s {l:List Step} (w:Wf l) (a:Nat):∀ (f i:Nat),i≤f→i < l.length→
  A6 E (orc E) (287:Nat) (f+1) (A8 f287 0) ⟨18,[(0,.sl 124 (l.map (sT 219))),(1,vI i),(2,vI a)],[],2⟩=
  some (.exit 0,⟨18,[(0,.sl 124 (l.map (sT 219))),(1,vI (a3l l a (f+1) i)),(2,vI a),(9,vB false)],[],2⟩)
 | f,i,hf,hi=>by
  cases c:ltI (a:Int) (i:Int)
  ·have e:a3l l a (f+1) i=i:=by simp [a3l,c]
   rw [e]
   refine D3 ?_ (by simp)
   simp +contextual -dsimp [f287,c]
  ·have h0:a < i:=by simp [ltI] at c; exact c
   obtain ⟨q,h1,h2⟩:=w.par hi (by omega)
   have hp:(l[i]).parent=q:=by rw [← a9a hi]; exact h1
   cases f with
   | zero=>omega
   | succ f=>
    have e:a3l l a (f+1+1) i=a3l l a (f+1) q:=by
     conv=>lhs; unfold a3l
     rw [if_pos c,Int.toNat_natCast,h1]
    rw [e]
    refine C1 ?_ (g2s w a f q (by omega) (by omega))
    simp (maxSteps:=1000000) +contextual -dsimp [f287,c,hi,hp]
theorem h1i {l:List Step} (w:Wf l) (a i:Nat) (hi:i < l.length):fo 287 [A (.sl 124 (l.map (sT 219))),A (vI i),A (vI a)]=some (R (vB (a6e l a i))):=by
 have hlp:=g2s w a i i (Nat.le_refl _) hi
 refine i0j (i+1) ?_
 simp -dsimp [f287] at hlp
 simp (maxSteps:=1000000) +contextual -dsimp [f287,hlp,a6e]
theorem e2d {l:List Step} (w:Wf l) (a:Nat):∀ (f i:Nat),i≤f→i < l.length→(a3l l a (f+1) i=a ↔ Und l a i)
 | f,i,hf,hi=>by
  by_cases h:a < i
  ·obtain ⟨q,h1,h2⟩:=w.par hi (by omega)
   cases f with
   | zero=>omega
   | succ f=>
    have e:a3l l a (f+1+1) i=a3l l a (f+1) q:=by
     conv=>lhs; unfold a3l
     rw [if_pos (by simp [ltI]; omega),Int.toNat_natCast,h1]
    rw [e,e2d w a f q (by omega) (by omega)]
    exact ⟨fun g=>.up hi h1 h2 g,fun g=>g.down (by omega) h1⟩
  ·have e:a3l l a (f+1) i=i:=by unfold a3l; rw [if_neg (by simp [ltI]; omega)]
   rw [e]
   constructor
   ·intro g
    have:i=a:=Int.ofNat.inj g
    rw [this]; exact .self
   ·intro g; have:=g.le
    have:i=a:=by omega
    rw [this]
theorem c5o {l:List Step} (w:Wf l) {a i:Nat} (hi:i < l.length):a6e l a i=true ↔ Und l a i:=by
 unfold a6e
 rw [← e2d w a i i (Nat.le_refl _) hi]
 simp [eqI]
def c0o (l:List Step) (a:Nat) (_:Nat) (acc:List Int) (x:Nat):List Int:=if a6e l a x=true then acc++[(x:Int)] else acc
def L2 (l:List Step) (a:Nat):List Int:=M9 (c0o l a) 0 [] (List.range' a (l.length - a))
theorem d7q {β:Type} {p:β→Bool} {f:β→Int}:∀ (r:List β) (i:Nat) (acc:List Int),M9 (fun _ acc x=>if p x=true then acc++[f x] else acc) i acc r=acc++(r.filter p).map f
 | [],_,acc=>by simp [M9]
 | x::r,i,acc=>by
  simp only [M9]
  rw [d7q r]
  cases h:p x <;> simp [h]
theorem c5p (l:List Step) (a:Nat):L2 l a=((List.range' a (l.length - a)).filter (a6e l a)).map (fun x:Nat=>(x:Int)):=by
 unfold L2 c0o
 rw [d7q]; rfl
theorem d7r {l:List Step} {a:Nat} {k:Int} (h:k∈L2 l a):∃ x:Nat,k=x∧a≤x∧x < l.length∧a6e l a x=true:=by
 rw [c5p,List.mem_map] at h
 obtain ⟨x,h1,rfl⟩:=h
 rw [List.mem_filter,List.mem_range'_1] at h1
 exact ⟨x,rfl,by omega,by omega,h1.2⟩
theorem i6t {l:List Step} (w:Wf l) (a:Nat) (ha:a < l.length):
  A6 E (orc E) (251:Nat) ((List.range' a (l.length - a)).length+1) (A8 f251 0) ⟨24,[(0,.sl 124 (l.map (sT 219))),(1,vI a),(5,.ref 5 1 [] 0 0),(6,vI (a+0:Nat))],[(5,⟨1,1,false,[.own 2 []]⟩)],2⟩=
  some (.exit 0,⟨24,[(0,.sl 124 (l.map (sT 219))),(1,vI a),(5,.ref 5 1 [] 0 (L2 l a).length),(6,vI l.length),(12,vB false)],[(5,⟨1,1,false,[.own 2 (iE (L2 l a))]⟩)],2⟩):=by
 have hle:=w.ok.le
 have hlen:(List.range' a (l.length - a)).length=l.length - a:=by simp
 have h:=a4h (f:=251) (id:=0) (code:=A8 f251 0) (List.range' a (l.length - a)) (fun i acc=>acc.length≤i)
  (fun i acc=>⟨24,[(0,.sl 124 (l.map (sT 219))),(1,vI a),(5,.ref 5 1 [] 0 acc.length),(6,vI (a+i:Nat))],[(5,⟨1,1,false,[.own 2 (iE acc)]⟩)],2⟩) (c0o l a)
  (fun acc=>⟨24,[(0,.sl 124 (l.map (sT 219))),(1,vI a),(5,.ref 5 1 [] 0 acc.length),(6,vI l.length),(12,vB false)],[(5,⟨1,1,false,[.own 2 (iE acc)]⟩)],2⟩)
 refine h ?_ ?_ [] (Nat.le_refl _)
 ·intro k acc _
  have e:a+(l.length - a)=l.length:=by omega
  have hlt:=a2m l.length
  rw [hlen,e]
  simp +contextual -dsimp [f251,hlt]
 ·intro k i acc hi hI
  rw [hlen] at hi
  have hx0:(List.range' a (l.length - a))[i]'(by simp; exact hi)=a+i:=by simp
  rw [hx0]
  obtain ⟨x,hx⟩:∃ x,x=a+i:=⟨_,rfl⟩
  have hx1:a+(i+1)=x+1:=by omega
  simp only [← hx,hx1]
  have hai:x < l.length:=by omega
  have hlt:=P7 hai
  have hw:=P1 hai (by omega)
  have hm1:acc.length+1≤C2:=by unfold C2; omega
  have g:=h1i w a x hai
  unfold c0o
  cases c:a6e l a x
  ·rw [c] at g
   refine ⟨?_,by simp; omega⟩
   simp (maxSteps:=1000000) +contextual -dsimp [f251,hlt,hw,g]
  ·rw [c] at g
   refine ⟨?_,by simp; omega⟩
   simp (maxSteps:=1000000) +contextual -dsimp [f251,hlt,hw,g,hm1,List.set]
theorem e2e (l:List Step) (a:Nat):(L2 l a).length≤l.length:=by
 rw [c5p]
 have:=List.length_filter_le (a6e l a) (List.range' a (l.length - a))
 simp at this ⊢; omega
theorem i1x {l:List Step} (w:Wf l) (a:Nat) (ha:a < l.length):fo 251 [A (.sl 124 (l.map (sT 219))),A (vI a)]=some ⟨.own 2 (iE (L2 l a)),[],true⟩:=by
 have hlp:=i6t w a ha
 have hc:D9 (iE (L2 l a))=true:=by generalize L2 l a=k; induction k <;> simp_all [D9,N5,clean]
 have e0:(List.range' a (l.length - a)).length=l.length - a:=by simp
 rw [e0] at hlp
 refine h9l (l.length - a+1) ?_
 simp -dsimp [f251,iE] at hlp
 simp (maxSteps:=1000000) +contextual -dsimp [f251,hlp,hc,List.set]
theorem i6u (l:List Int) (hl:l.length < 2 ^ 62) (v:Int):
  b1o 0 (fun _=>⟨19,[(0,iS l),(1,vI v),(7,vI l.length),(8,vI l.length),(9,vB false)],[],2⟩) (fun e st=>∃ rt,st=⟨19,[(4,vI e)],rt,2⟩)
   (A6 E (orc E) (248:Nat) (l.length+1) (A8 f248 0) ⟨19,[(0,iS l),(1,vI v),(7,vI l.length),(8,vI (0:Nat))],[],2⟩)
   (O4 (fun (i:Nat) (_:Unit) (x:Int)=>if eqI v x=true then (.inl (i:Int):Int ⊕ Unit) else .inr ()) 0 () l):=by
 refine b4v (f:=248) (id:=0) (code:=A8 f248 0) l (fun _ _=>True) (fun i _=>⟨19,[(0,iS l),(1,vI v),(7,vI l.length),(8,vI i)],[],2⟩) _ _ _ ?_ ?_ l 0 () rfl (Nat.zero_le _) trivial
 ·intro k s _
  have hlt:=a2m l.length
  simp +contextual -dsimp [f248,hlt]
 ·intro k i _ hi _
  have hlt:=P7 hi
  have hw:=P1 hi hl
  cases c:eqI v l[i]
  ·refine ⟨fun s' hs=>⟨?_,trivial⟩,fun e he=>by simp at he⟩
   simp (maxSteps:=1000000) +contextual -dsimp [f248,hlt,hi,hw,c]
  ·refine ⟨fun s' hs=>by simp at hs,fun e he=>?_⟩
   simp only [if_true,Sum.inl.injEq] at he
   subst he
   refine ⟨⟨19,[(4,vI i)],[],2⟩,?_,_,rfl⟩
   simp (maxSteps:=1000000) +contextual -dsimp [f248,hlt,hi,hw,c]
def a3m (v:Int) (l:List Int):Int:=D2 (fun x=>eqI v x) 0 l
theorem e2f (v:Int):∀ (l:List Int) (i:Nat),O4 (fun (i:Nat) (_:Unit) (x:Int)=>if eqI v x=true then (.inl (i:Int):Int ⊕ Unit) else .inr ()) i () l=
  if ltI (D2 (fun x=>eqI v x) i l) 0=true then .inr () else .inl (D2 (fun x=>eqI v x) i l)
 | [],i=>by simp [O4,D2,ltI]
 | x::l,i=>by
  unfold O4 D2
  cases c:eqI v x
  ·simp only [Bool.false_eq_true,if_false]; exact e2f v l (i+1)
  ·simp [ltI]
theorem i1y (l:List Int) (hl:l.length < 2 ^ 62) (v:Int):fo 248 [A (iS l),A (vI v)]=some (R (vI (a3m v l))):=by
 have hlp:=i6u l hl v
 rw [e2f] at hlp
 refine h9i (l.length+1) ?_
 unfold a3m
 cases c:ltI (D2 (fun x=>eqI v x) 0 l) 0
 ·rw [c,if_neg (by simp)] at hlp
  obtain ⟨_,hlp,rt,rfl⟩:=hlp
  simp -dsimp [f248] at hlp
  simp (maxSteps:=1000000) +contextual -dsimp [f248,hlp,c]
 ·rw [c,if_pos rfl] at hlp
  unfold b1o at hlp
  simp -dsimp [f248] at hlp
  have e:=b4z c
  rw [e]
  simp (maxSteps:=1000000) +contextual -dsimp [f248,hlp]
abbrev bO (l:List Step) (c:Chart):List T:=[.sl 124 (l.map (sT 219)),vI c.status,vI c.now,.own 2 (iE c.vars),.own 2 (iE c.acts),.own 2 (iE c.dues)]
abbrev aB (l:List Step) (c:Chart):Arg:=⟨.ptr 0 0 [] 0,some ⟨0,1,true,bO l c⟩⟩
abbrev RB (l:List Step) (c:Chart):Res:=⟨.tup [],[(0,bO l c)],true⟩
def a0j (l:List Step) (st:Int) (c:Chart):Chart:={ c with status:=st,acts:=List.replicate l.length 0,dues:=List.replicate l.length 0 }
def zap (ks:List Int) (xs:List Int):List Int:=ks.foldl (fun xs k=>xs.set k.toNat 0) xs
def a1l (ks:List Int) (c:Chart):Chart:={ c with acts:=zap ks c.acts,dues:=zap ks c.dues }
theorem c7s:∀ (ks xs:List Int),(zap ks xs).length=xs.length
 | [],_=>rfl
 | k::ks,xs=>by
  have:=c7s ks (xs.set k.toNat 0)
  simpa [zap] using this
theorem c8o (l:List Step) (hl:l.length≤1000) (c:Chart) (st:Int):fo 239 [aB l c,A (vI st)]=some (RB l (a0j l st c)):=by
 have hm:((l.length:Nat):Int)≤(C2:Nat):=by unfold C2; omega
 refine h8z 1 ?_
 simp (maxSteps:=1000000) +contextual -dsimp [f239,hm,a0j,List.set]
theorem c3t:∀ (ks:List Int) (i:Nat) (c:Chart),M9 (fun (_:Nat) (c:Chart) (k:Int)=>{ c with acts:=c.acts.set k.toNat 0,dues:=c.dues.set k.toNat 0 }) i c ks=a1l ks c
 | [],_,c=>rfl
 | k::ks,i,c=>by
  simp only [M9]
  rw [c3t ks]
  simp [a1l,zap]
theorem i6v (l:List Step) (c:Chart) (ks:List Int) (hk:ks.length < 2 ^ 62) (hin:∀ k,k∈ks→∃ x:Nat,k=x∧x < c.acts.length∧x < c.dues.length):
  A6 E (orc E) (200:Nat) (ks.length+1) (A8 f200 0) ⟨32,[(0,.ptr 0 0 [] 0),(11,iS ks),(12,vI ks.length),(13,vI (0:Nat))],[(0,⟨0,1,true,bO l c⟩)],2⟩=
  some (.exit 0,⟨32,[(0,.ptr 0 0 [] 0),(11,iS ks),(12,vI ks.length),(13,vI ks.length),(14,vB false)],[(0,⟨0,1,true,bO l (a1l ks c)⟩)],2⟩):=by
 have h:=a4h (f:=200) (id:=0) (code:=A8 f200 0) ks (fun _ c'=>c'.acts.length=c.acts.length∧c'.dues.length=c.dues.length)
  (fun i c'=>⟨32,[(0,.ptr 0 0 [] 0),(11,iS ks),(12,vI ks.length),(13,vI i)],[(0,⟨0,1,true,bO l c'⟩)],2⟩) (fun (_:Nat) (c:Chart) (k:Int)=>{ c with acts:=c.acts.set k.toNat 0,dues:=c.dues.set k.toNat 0 })
  (fun c'=>⟨32,[(0,.ptr 0 0 [] 0),(11,iS ks),(12,vI ks.length),(13,vI ks.length),(14,vB false)],[(0,⟨0,1,true,bO l c'⟩)],2⟩)
 have h2:=h ?_ ?_ c ⟨rfl,rfl⟩
 ·rw [c3t] at h2; exact h2
 ·intro k c' _
  have hlt:=a2m ks.length
  simp +contextual -dsimp [f200,hlt]
 ·intro k i c' hi hI
  obtain ⟨x,hx,h1,h2⟩:=hin ks[i] (List.getElem_mem hi)
  have hlt:=P7 hi
  have hw:=P1 hi hk
  have e1:x < c'.acts.length:=by omega
  have e2:x < c'.dues.length:=by omega
  refine ⟨?_,by simp; exact hI⟩
  simp (maxSteps:=1000000) +contextual -dsimp [f200,hlt,hi,hw,hx,e1,e2,List.set]
theorem i5k {l:List Step} (w:Wf l) (c:Chart) (ha:c.acts.length=l.length) (hd:c.dues.length=l.length) (k:Nat) (hk:k < l.length):
  fo 200 [aB l c,A (vI k)]=some (RB l (a1l (L2 l k) c)):=by
 have g:=i1x w k hk
 have hle:=e2e l k
 have hl:=w.ok.le
 have hse:=a2h (L2 l k)
 have hlp:=i6v l c (L2 l k) (by omega) (fun k hk=>by
  obtain ⟨x,h1,h2,h3,h4⟩:=d7r hk
  exact ⟨x,h1,by omega,by omega⟩)
 refine h8d ((L2 l k).length+1) ?_
 simp -dsimp [f200] at hlp
 simp (maxSteps:=1000000) +contextual -dsimp [f200,g,hse,hlp]
def a1w (acts:List Int) (k:Int):Bool:=A0 (eqI (A4 acts k) 2)
theorem h1j (l:List Step) (c:Chart) (k:Nat) (hk:k < c.acts.length):fo 249 [A (vI k),A (.ipt [.ipt (bT l c)])]=some (R (vB (a1w c.acts k))):=by
 have hs:=K8 hk
 refine h9j 1 ?_
 simp (maxSteps:=1000000) +contextual -dsimp [f249,hk,a1w,hs]
theorem g2t {g:Nat} {cap:List T} (hmode:E.mode (g:Nat)=[]) (p:Int→Bool) (all:List Int) (hall:all.length < 2 ^ 62) (hg:∀ x,x∈all→fo g [A (vI x),A (.ipt cap)]=some (R (vB (p x)))) (hv:¬ g=127:=by decide):
    ∀ (rest:List Int) (i:Nat),all.drop i=rest→
    A6 E (orc E) (280:Nat) (rest.length+1) (A8 f280 0) ⟨19,[(0,iS all),(1,.clo g [.ipt cap]),(7,vI all.length),(8,vI i)],[],2⟩=
    (if ltI (D2 p i rest) 0 = true then some (.exit 0, ⟨19, [(0, iS all), (1, .clo g [.ipt cap]), (7, vI all.length), (8, vI (i + rest.length : Nat)), (9, vB false)], [], 2⟩)
     else some (.ret,⟨19,[(4,vI (D2 p i rest))],[],2⟩))
  | [],i,h=>by
    have hge:all.length≤i:=by simpa using h
    have hlt:ltI (i:Int) (all.length:Int)=false:=B6 (by omega)
    have h1:ltI (-1) 0=true:=rfl
    rw [C3]
    simp +contextual -dsimp [f280,hlt,D2,h1]
  | x::rest,i,h=>by
    obtain ⟨hi,hc,hr⟩:=C6 h
    have hlt:ltI (i:Int) (all.length:Int)=true:=C4 (by omega)
    have hw:IntKind.i64.wrap ((i:Int)+1)=((i+1:Nat):Int):=by rw [A5] <;> omega
    have he:i+1+rest.length=i+(rest.length+1):=by omega
    have h0:ltI (i:Int) 0=false:=B6 (by omega)
    have g:=hg x (by rw [← hc]; exact List.getElem_mem _)
    cases c:p x
    · have ih := g2t hmode p all hall hg hv rest (i + 1) hr
      rw [he] at ih
      have hm:D2 p i (x::rest)=D2 p (i+1) rest:=by simp [D2,c]
      rw [hm]
      rw [c] at g
      refine C1 ?_ (by simpa only [List.length_cons] using ih)
      simp (maxSteps:=1000000) +contextual -dsimp [f280,hlt,hi,hc,hw,hmode,hv,g]
    · have hm : D2 p i (x :: rest) = i := by simp [D2, c]
      rw [hm,h0,if_neg (by simp)]
      rw [c] at g
      refine D3 ?_ (by simp)
      simp (maxSteps:=1000000) +contextual -dsimp [f280,hlt,hi,hc,hmode,hv,g]
theorem g8h {g:Nat} {cap:List T} (hmode:E.mode (g:Nat)=[]) (p:Int→Bool) (l:List Int) (hl:l.length < 2 ^ 62) (hg:∀ x,x∈l→fo g [A (vI x),A (.ipt cap)]=some (R (vB (p x)))) (hv:¬ g=127:=by decide):
  fo 280 [A (iS l),A (.clo g [.ipt cap])]=some (R (vI (D2 p 0 l))):=by
 have hlp:=g2t hmode p l hl hg hv l 0 rfl
 refine c6h (l.length+1) ?_
 simp -dsimp [f280] at hlp
 cases c:ltI (D2 p 0 l) 0
 ·simp (maxSteps:=1000000) +contextual -dsimp [f280,hlp,c]
 ·have e:D2 p 0 l=-1:=b4z c
  rw [e] at hlp ⊢
  simp (maxSteps:=1000000) +contextual -dsimp [f280,hlp]
theorem h1k {g:Nat} {cap:List T} (hmode:E.mode (g:Nat)=[]) (p:Int→Bool) (l:List Int) (hl:l.length < 2 ^ 62) (hg:∀ x,x∈l→fo g [A (vI x),A (.ipt cap)]=some (R (vB (p x)))) (hv:¬ g=127:=by decide):
  fo 235 [A (iS l),A (.clo g [.ipt cap])]=some (R (vB (V3 p l))):=by
 have g:=g8h hmode p l hl hg hv
 refine c6f 1 ?_
 simp (maxSteps:=1000000) +contextual -dsimp [f235,g,V3]
end Go.TM.Ft
