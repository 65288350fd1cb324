/- What functions of the program come to, by the machine. -/
import Derived.Test.YtldklhcklkaplaaGreatDoorTL9
import Derived.Test.YtldklhcklkaplaaGreatDoorTL7
set_option linter.unusedSimpArgs false
set_option linter.unusedVariables false
set_option maxHeartbeats 16000000
namespace Go.TM.It
open Go Go.TM Go.Proofs
def Ah (a b:Claim):Prop:=a.inst<b.inst∨(a.inst=b.inst∧a.step<b.step)
theorem ahead_iff (a b:Claim):aheadM a b=true↔Ah a b:=by
 simp[aheadM,Ah,orB,andB,ltI,eqI]
theorem cmp_lt (a b:Claim):ltI (cmpC a b) 0=aheadM a b:=by
 have h:=ahead_cmp a b
 cases q:aheadM a b
 ·rw[q] at h;simp only[notB,Bool.not_false,leI,decide_eq_true_eq] at h
  exact ltI_f (by omega)
 ·rw[q] at h;simp only[notB,Bool.not_true,leI,decide_eq_false_iff_not] at h
  exact ltI_t (by omega)
theorem cmp_zero (a b:Claim):eqI (cmpC a b) 0=true↔a.inst=b.inst∧a.step=b.step:=by
 unfold cmpC first2 cmpI
 by_cases h1:a.inst<b.inst
 ·simp[ltI,eqI,h1];omega
 ·by_cases h2:b.inst<a.inst
  ·simp[ltI,eqI,h1,h2];omega
  ·have h3:a.inst=b.inst:=by omega
   by_cases h4:a.step<b.step
   ·simp[ltI,eqI,h3,h4];omega
   ·by_cases h5:b.step<a.step
    ·simp[ltI,eqI,h3,h4,h5];omega
    ·simp[ltI,eqI,h3,h4,h5];omega
theorem Ah.trans {a b c:Claim} (h1:Ah a b) (h2:Ah b c):Ah a c:=by unfold Ah at *;omega
def Sorted (l:List Claim):Prop:=∀ i j (hj:j<l.length) (h:i<j),Ah (l[i]'(by omega)) l[j]
theorem claimsM_step {d:Desk}:∀ {rest:List Claim} {i:Nat},d.claims.drop i=rest→claimsM d i rest=0→∀ k,i≤k→k<d.claims.length→0<k→Ah (clAt d.claims (k - 1)) (clAt d.claims k)
 | [],i,h,_,k,h1,h2,_=>by
  have:d.claims.length≤i:=by simpa using h
  omega
 | c::rest,i,h,hz,k,h1,h2,h3=>by
  obtain⟨hi,hc,hr⟩:=drop_cons h
  simp only[claimsM] at hz
  cases q:eqI (claimM d i c) 0
  ·rw[q] at hz;simp only[Bool.false_eq_true,if_false] at hz
   rw[hz] at q;simp[eqI] at q
  ·rw[q] at hz;simp only[if_true] at hz
   rcases Nat.lt_or_ge i k with hk | hk
   ·exact claimsM_step hr hz k hk h2 h3
   ·obtain rfl:k=i:=by omega
    have e0:claimM d k c=0:=by simpa[eqI] using q
    have e1:clAt d.claims k=c:=by simp[clAt,hi,hc]
    rw[e1,←ahead_iff]
    have h0:ltI 0 (k:Int)=true:=ltI_t (by omega)
    unfold claimM at e0
    split at e0
    ·omega
    ·split at e0
     ·omega
     ·split at e0
      ·omega
      ·rename_i hh
       rw[h0,ahead_cmp] at hh
       cases q5:aheadM (clAt d.claims (k - 1)) c
       ·rw[q5] at hh;simp[andB,notB] at hh
       ·rfl
theorem sorted_of {d:Desk} (h:claimsM d 0 d.claims=0):Sorted d.claims:=by
 have hs:=claimsM_step (d:=d) (i:=0) rfl h
 have:∀ n i j (hj:j<d.claims.length) (h:i<j),j - i≤n+1→Ah (d.claims[i]'(by omega)) d.claims[j]:=by
  intro n
  induction n with
  | zero=>
   intro i j hj hij hn
   obtain rfl:j=i+1:=by omega
   have:=hs (i+1) (by omega) hj (by omega)
   have hi:i<d.claims.length:=by omega
   simpa[clAt,hj,hi] using this
  | succ n ih=>
   intro i j hj hij hn
   rcases Nat.lt_or_ge (i+1) j with h1 | h1
   ·have a:=ih i (j - 1) (by omega) (by omega) (by omega)
    have b:=ih (j - 1) j hj (by omega) (by omega)
    exact a.trans b
   ·exact ih i j hj hij (by omega)
 exact fun i j hj hij=>this (j - i) i j hj hij (by omega)
theorem bsM_at {l:List Claim} {x:Claim} (hs:Sorted l):∀ (n lo hi:Nat),hi - lo≤n→lo≤hi→hi≤l.length→
  (∀ k (h:k<l.length),k<lo→Ah l[k] x)→(∀ k (h:k<l.length),hi≤k→¬ Ah l[k] x)→
  (∀ k (h:k<l.length),k<bsM l x n lo hi→Ah l[k] x)∧(∀ k (h:k<l.length),bsM l x n lo hi≤k→¬ Ah l[k] x)
 | 0,lo,hi,h1,h2,h3,ha,hb=>by
  obtain rfl:lo=hi:=by omega
  exact⟨ha,hb⟩
 | n+1,lo,hi,h1,h2,h3,ha,hb=>by
  unfold bsM
  by_cases hlh:lo<hi
  ·rw[if_pos hlh]
   obtain⟨m,hm⟩:∃ m,m=(lo+hi) / 2:=⟨_,rfl⟩
   rw[←hm]
   have hml:m<l.length:=by omega
   have hc:clAt l m=l[m]:=by simp[clAt,hml]
   rw[hc,cmp_lt]
   cases q:aheadM l[m] x
   ·have q':¬ Ah l[m] x:=fun h=>by rw[←ahead_iff,q] at h;cases h
    refine bsM_at hs n lo m (by omega) (by omega) (by omega) ha fun k h hk=>?_
    rcases Nat.lt_or_ge m k with hk2 | hk2
    ·exact fun h9=>q' ((hs m k h hk2).trans h9)
    ·obtain rfl:k=m:=by omega
     exact q'
   ·have q':=(ahead_iff _ _).1 q
    refine bsM_at hs n (m+1) hi (by omega) (by omega) (by omega) (fun k h hk=>?_) hb
    rcases Nat.lt_or_ge k m with hk2 | hk2
    ·exact (hs k m hml hk2).trans q'
    ·obtain rfl:k=m:=by omega
     exact q'
  ·rw[if_neg hlh]
   obtain rfl:lo=hi:=by omega
   exact⟨ha,hb⟩
theorem same_iff (c:Claim) (i s:Int):sameB c i s=true↔c.inst=i∧c.step=s:=by simp[sameB,andB,eqI]
theorem keep_same (c:Claim) (i s:Int):keepB i s c=notB (sameB c i s):=by
 unfold keepB sameB;cases eqI c.inst i<;>cases eqI c.step s<;>rfl
theorem pos_at {l:List Claim} (hs:Sorted l) (i s:Int):
  (hasM l ⟨i,s,0⟩=true→∃ h:posM l ⟨i,s,0⟩<l.length,sameB (l[posM l ⟨i,s,0⟩]) i s=true∧∀ k (h:k<l.length),k≠posM l ⟨i,s,0⟩→sameB l[k] i s=false)∧
  (hasM l ⟨i,s,0⟩=false→∀ c,c∈l→sameB c i s=false):=by
 obtain⟨h1,h2⟩:=bsM_at (x:=⟨i,s,0⟩) hs l.length 0 l.length (by omega) (by omega) (by omega) (fun k _ h=>by omega) (fun k h h9=>by omega)
 have e:posM l ⟨i,s,0⟩=bsM l ⟨i,s,0⟩ l.length 0 l.length:=rfl
 rw[←e] at h1 h2
 unfold hasM
 generalize posM l ⟨i,s,0⟩=p at *
 have ns:∀ c:Claim,Ah c ⟨i,s,0⟩→sameB c i s=false:=fun c h=>by
  cases q:sameB c i s
  ·rfl
  ·rw[same_iff] at q;unfold Ah at h;simp only at h;omega
 constructor
 ·intro h
  have hp:p<l.length:=by simp[andB,ltI] at h;omega
  have hc:clAt l p=l[p]:=by simp[clAt,hp]
  have hz:eqI (cmpC l[p] ⟨i,s,0⟩) 0=true:=by rw[hc] at h;simp only[andB,Bool.and_eq_true] at h;exact h.2
  rw[cmp_zero] at hz
  refine⟨hp,(same_iff _ _ _).2 hz,fun k hk hkp=>?_⟩
  rcases Nat.lt_or_ge k p with h3 | h3
  ·exact ns _ (h1 k hk h3)
  ·have h4:=hs p k hk (by omega)
   cases q:sameB l[k] i s
   ·rfl
   ·rw[same_iff] at q;unfold Ah at h4;simp only at hz;omega
 ·intro h c hc
  obtain⟨k,hk,rfl⟩:=List.mem_iff_getElem.1 hc
  rcases Nat.lt_or_ge k p with h3 | h3
  ·exact ns _ (h1 k hk h3)
  ·have hp:p<l.length:=by omega
   have hcl:clAt l p=l[p]:=by simp[clAt,hp]
   have hlt:ltI (p:Int) (l.length:Int)=true:=ltI_t (by omega)
   rw[hcl,hlt] at h
   have hz:¬ (l[p].inst=i∧l[p].step=s):=fun hh=>by
    have:=(cmp_zero l[p] ⟨i,s,0⟩).2 hh
    rw[this] at h;simp[andB] at h
   cases q:sameB l[k] i s
   ·rfl
   ·rw[same_iff] at q
    have h5:=h2 p hp (Nat.le_refl _)
    rcases Nat.lt_or_ge p k with h6 | h6
    ·have h7:=hs p k hk h6
     unfold Ah at h5 h7;simp only at h5;omega
    ·obtain rfl:k=p:=by omega
     exact absurd q hz
theorem whoM_app {i s:Int}:∀ {a b:List Claim},(∀ c,c∈a→sameB c i s=false)→whoM (a++b) i s=whoM b i s
 | [],_,_=>rfl
 | c::a,b,h=>by
  simp only[List.cons_append,whoM,h c (by simp)]
  exact whoM_app fun c hc=>h c (by simp[hc])
theorem pos_who {l:List Claim} (hs:Sorted l) (i s:Int):
  (hasM l ⟨i,s,0⟩=true→posM l ⟨i,s,0⟩<l.length∧whoM l i s=(clAt l (posM l ⟨i,s,0⟩)).user∧withoutM l i s=l.take (posM l ⟨i,s,0⟩)++l.drop (posM l ⟨i,s,0⟩+1))∧
  (hasM l ⟨i,s,0⟩=false→whoM l i s=0):=by
 obtain⟨h1,h2⟩:=pos_at hs i s
 refine⟨fun h=>?_,fun h=>whoM_none (h2 h)⟩
 obtain⟨hp,hsame,hoth⟩:=h1 h
 generalize posM l ⟨i,s,0⟩=p at *
 have hcl:clAt l p=l[p]:=by simp[clAt,hp]
 have e:l=l.take p++l[p]::l.drop (p+1):=by rw[←List.drop_eq_getElem_cons hp,List.take_append_drop]
 have ha:∀ c,c∈l.take p→sameB c i s=false:=fun c hc=>by
  obtain⟨k,hk,rfl⟩:=List.mem_iff_getElem.1 hc
  rw[List.length_take] at hk
  rw[List.getElem_take]
  exact hoth k (by omega) (by omega)
 have hb:∀ c,c∈l.drop (p+1)→sameB c i s=false:=fun c hc=>by
  obtain⟨k,hk,rfl⟩:=List.mem_iff_getElem.1 hc
  rw[List.length_drop] at hk
  rw[List.getElem_drop]
  exact hoth (p+1+k) (by omega) (by omega)
 refine⟨hp,?_,?_⟩
 ·rw[hcl]
  conv=>lhs;rw[e]
  rw[whoM_app ha]
  simp[whoM,hsame]
 ·unfold withoutM
  conv=>lhs;rw[e]
  rw[List.filter_append,List.filter_cons]
  have k0:keepB i s l[p]=false:=by rw[keep_same,hsame];rfl
  rw[k0,if_neg (by simp)]
  congr 1
  ·exact List.filter_eq_self.2 fun c hc=>by rw[keep_same,ha c hc];rfl
  ·exact List.filter_eq_self.2 fun c hc=>by rw[keep_same,hb c hc];rfl
set_option maxRecDepth 20000
attribute [local congr] gif_cg
attribute [local simp] footOf noClash clash upsets setsHit setHits layHits layMeets setsMeet evFeet
def small (n:Int):Prop:=-1000000000≤n∧n≤1000000000
def stW (s:Int):ByteArray:=if s=1 then ⟨#[108,105,118,101]⟩ else if s=2 then ⟨#[101,110,100,101,100]⟩ else ⟨#[102,97,105,108,101,100]⟩
theorem stW_size (s:Int):(stW s).size≤6:=by
 unfold stW
 split
 ·exact (by decide:(4:Nat)≤6)
 ·split
  ·exact (by decide:(5:Nat)≤6)
  ·exact (by decide:(6:Nat)≤6)
def col:ByteArray:=⟨#[58]⟩
def openW (d:Desk) (i s:Int):ByteArray:=if ltI 0 (whoM d.claims i s)=true then decB s++(col++decB (whoM d.claims i s)) else decB s
theorem lp17v (d:Desk) (inst:Int) (x:Inst) (hn:x.chart.vars.length≤1000) (hv:∀ v,v∈x.chart.vars→small v):∀ (rest:List Int) (i:Nat) (acc:ByteArray),x.chart.vars.drop i=rest→i+rest.length=x.chart.vars.length→acc.size+30*rest.length≤1000000→
  evLoop E (orc E) (17:Nat) (rest.length+1) (loopOf Tryz.f17 0) ⟨99,[(0,.ipt (dT d)),(1,vI inst),(5,.ipt (xT x)),(6,vS acc),(7,vI i)],[],2⟩=
  some (.exit 0,⟨99,[(0,.ipt (dT d)),(1,vI inst),(5,.ipt (xT x)),(6,vS (addW acc (rest.map decB))),(7,vI x.chart.vars.length),(38,vB false)],[],2⟩)
 | [],i,acc,h,hl,hs=>by
  simp only[List.length_nil,Nat.add_zero] at hl
  subst hl
  have hlt:ltI (x.chart.vars.length:Int) (x.chart.vars.length:Int)=false:=ltI_f (by omega)
  rw[loop_eq]
  simp +contextual -dsimp [Tryz.f17,hlt,addW]
 | v::rest,i,acc,h,hl,hs=>by
  obtain⟨hi,hc,hr⟩:=drop_cons h
  simp only[List.length_cons] at hl hs
  obtain⟨j,ej⟩:∃ j,j=i+1:=⟨_,rfl⟩
  rw[←ej] at hr
  have hlt:ltI (i:Int) (x.chart.vars.length:Int)=true:=ltI_t (by omega)
  have hw:IntKind.i64.wrap ((i:Int)+1)=(j:Int):=by rw[wrapI]<;>omega
  obtain⟨v0,v1⟩:=hv v (by rw[←hc];exact List.getElem_mem hi)
  have g:=f_digits v v0 v1
  have hz:=decB_size v v0 v1
  have hsp:(⟨#[32]⟩:ByteArray).size=1:=rfl
  have p1:=fun a b=>pr_addS Tryz.prog 9 a b acc ⟨#[32]⟩ (by rw[hsp];omega)
  have p2:=fun a b=>pr_addS Tryz.prog 9 a b (acc++⟨#[32]⟩) (decB v) (by rw[ByteArray.size_append,hsp];omega)
  have ih:=lp17v d inst x hn hv rest j (acc++⟨#[32]⟩++decB v) hr (by omega) (by simp only[ByteArray.size_append,hsp];omega)
  have e:addW acc ((v::rest).map decB)=addW (acc++⟨#[32]⟩++decB v) (rest.map decB):=rfl
  rw[e]
  refine evLoop_next ?_ (by simpa only[List.length_cons] using ih)
  generalize acc++(⟨#[32]⟩:ByteArray)++decB v=a2 at *
  generalize acc++(⟨#[32]⟩:ByteArray)=a1 at *
  simp (maxSteps:=1000000) +contextual -dsimp [Tryz.f17,hlt,hi,hc,hw,g,p1,p2,List.set]
theorem lp17o (d:Desk) (hd:d.claims.length≤1048576) (hu:∀ i s,0≤whoM d.claims i s∧whoM d.claims i s≤9) (inst:Int) (all:List Int) (hn:all.length≤1000) (hv:∀ v,v∈all→small v):∀ (rest:List Int) (i:Nat) (acc:ByteArray),all.drop i=rest→i+rest.length=all.length→acc.size+60*rest.length≤1000000→
  evLoop E (orc E) (17:Nat) (rest.length+1) (loopOf Tryz.f17 1) ⟨99,[(0,.ipt (dT d)),(1,vI inst),(6,vS acc),(8,.sl 2 (iE all)),(9,vI i)],[],2⟩=
  some (.exit 2,⟨99,[(0,.ipt (dT d)),(1,vI inst),(6,vS (addW acc (rest.map (openW d inst)))),(8,.sl 2 (iE all)),(9,vI all.length),(72,vB false)],[],2⟩)
 | [],i,acc,h,hl,hs=>by
  simp only[List.length_nil,Nat.add_zero] at hl
  subst hl
  have hlt:ltI (all.length:Int) (all.length:Int)=false:=ltI_f (by omega)
  rw[loop_eq]
  simp +contextual -dsimp [Tryz.f17,hlt,addW]
 | v::rest,i,acc,h,hl,hs=>by
  obtain⟨hi,hc,hr⟩:=drop_cons h
  simp only[List.length_cons] at hl hs
  obtain⟨j,ej⟩:∃ j,j=i+1:=⟨_,rfl⟩
  rw[←ej] at hr
  have hlt:ltI (i:Int) (all.length:Int)=true:=ltI_t (by omega)
  have hw:IntKind.i64.wrap ((i:Int)+1)=(j:Int):=by rw[wrapI]<;>omega
  obtain⟨v0,v1⟩:=hv v (by rw[←hc];exact List.getElem_mem hi)
  have g:=f_digits v v0 v1
  have hz:=decB_size v v0 v1
  have g2:=f_l12Who d hd inst v
  obtain⟨u0,u1⟩:=hu inst v
  have hsp:(⟨#[32]⟩:ByteArray).size=1:=rfl
  have hco:(⟨#[58]⟩:ByteArray).size=1:=rfl
  have p1:=fun a b=>pr_addS Tryz.prog 9 a b acc ⟨#[32]⟩ (by rw[hsp];omega)
  have p2:=fun a b=>pr_addS Tryz.prog 9 a b (acc++⟨#[32]⟩) (decB v) (by rw[ByteArray.size_append,hsp];omega)
  cases q:ltI 0 (whoM d.claims inst v) with
  | true=>
   have g3:=f_digits (whoM d.claims inst v) (by omega) (by omega)
   have hz3:=decB_size (whoM d.claims inst v) (by omega) (by omega)
   have p3:=fun a b=>pr_addS Tryz.prog 9 a b (acc++⟨#[32]⟩++decB v) ⟨#[58]⟩ (by simp only[ByteArray.size_append,hsp,hco];omega)
   have p4:=fun a b=>pr_addS Tryz.prog 9 a b (acc++⟨#[32]⟩++decB v++⟨#[58]⟩) (decB (whoM d.claims inst v)) (by simp only[ByteArray.size_append,hsp,hco];omega)
   have ih:=lp17o d hd hu inst all hn hv rest j (acc++⟨#[32]⟩++decB v++⟨#[58]⟩++decB (whoM d.claims inst v)) hr (by omega) (by simp only[ByteArray.size_append,hsp,hco];omega)
   have e:addW acc ((v::rest).map (openW d inst))=addW (acc++⟨#[32]⟩++decB v++⟨#[58]⟩++decB (whoM d.claims inst v)) (rest.map (openW d inst)):=by
    have e1:openW d inst v=decB v++(⟨#[58]⟩++decB (whoM d.claims inst v)):=by unfold openW;rw[q];rfl
    simp only[List.map_cons,addW,e1,sp,←ba_assoc]
   rw[e]
   refine evLoop_next ?_ (by simpa only[List.length_cons] using ih)
   generalize acc++(⟨#[32]⟩:ByteArray)++decB v++⟨#[58]⟩++decB (whoM d.claims inst v)=a4 at *
   generalize acc++(⟨#[32]⟩:ByteArray)++decB v++⟨#[58]⟩=a3 at *
   generalize acc++(⟨#[32]⟩:ByteArray)++decB v=a2 at *
   generalize acc++(⟨#[32]⟩:ByteArray)=a1 at *
   simp (maxSteps:=1000000) +contextual -dsimp [Tryz.f17,hlt,hi,hc,hw,g,g2,g3,q,p1,p2,p3,p4,List.set]
  | false=>
   have ih:=lp17o d hd hu inst all hn hv rest j (acc++⟨#[32]⟩++decB v) hr (by omega) (by simp only[ByteArray.size_append,hsp];omega)
   have e:addW acc ((v::rest).map (openW d inst))=addW (acc++⟨#[32]⟩++decB v) (rest.map (openW d inst)):=by
    have e1:openW d inst v=decB v:=by unfold openW;rw[q];rfl
    simp only[List.map_cons,addW,e1,sp]
   rw[e]
   refine evLoop_next ?_ (by simpa only[List.length_cons] using ih)
   generalize acc++(⟨#[32]⟩:ByteArray)++decB v=a2 at *
   generalize acc++(⟨#[32]⟩:ByteArray)=a1 at *
   simp (maxSteps:=1000000) +contextual -dsimp [Tryz.f17,hlt,hi,hc,hw,g,g2,q,p1,p2,List.set]
def instS:ByteArray:=⟨#[105,110,115,116]⟩
def lineW (d:Desk) (k:Nat) (x:Inst) (os:List Int):ByteArray:=addW (addW (addW instS [decB k,stW x.chart.status]) (x.chart.vars.map decB)) (os.map (openW d k))
theorem inst_sp:instS++sp=⟨#[105,110,115,116,32]⟩:=rfl
theorem line0 (k:Nat) (s:Int):addW instS [decB k,stW s]=⟨#[105,110,115,116,32]⟩++decB k++⟨#[32]⟩++stW s:=by
 simp only[addW,inst_sp]
 rfl
theorem opens_in (acts:List Int):∀ (l:List Step) (i:Nat) (v:Int),v∈opensM acts i l→0≤v∧v<i+l.length
 | [],i,v,h=>by simp[opensM] at h
 | s::l,i,v,h=>by
  unfold opensM at h
  have ih:=opens_in acts l (i+1) v
  simp only[List.length_cons]
  split at h
  ·rcases List.mem_cons.1 h with rfl | h
   ·omega
   ·have:=ih h;omega
  ·have:=ih h;omega
theorem openW_size (d:Desk) (hu:∀ i s,0≤whoM d.claims i s∧whoM d.claims i s≤9) (i s:Int) (h:small s):(openW d i s).size≤50:=by
 have h1:=decB_size s h.1 h.2
 obtain⟨u0,u1⟩:=hu i s
 have h2:=decB_size (whoM d.claims i s) (by omega) (by omega)
 have hc:col.size=1:=rfl
 unfold openW
 split
 ·simp only[ByteArray.size_append,hc];omega
 ·omega
theorem loop_up {f k k':Nat} (h:k≤k') {b:Code} {st:St} {r} (hl:evLoop E (orc E) f k b st=some r):evLoop E (orc E) f k' b st=some r:=evLoop_mono (fun _ _ _ h=>h) h hl
theorem f_l16 (d:Desk) (hd:d.claims.length≤1048576) (hu:∀ i s,0≤whoM d.claims i s∧whoM d.claims i s≤9) (k:Nat) (hk:k<d.eng.insts.length) (hk2:k≤1000) (x:Inst) (ex:d.eng.insts[k]=x) (a:Nat) (hx:x.proc=a) (ha:a<d.eng.procs.length)
  (hl:(d.eng.procs[a]).length≤1000) (hac:x.chart.acts.length=(d.eng.procs[a]).length) (hst:1≤x.chart.status∧x.chart.status≤3) (hn:x.chart.vars.length≤1000) (hv:∀ v,v∈x.chart.vars→small v):
  fo 17 [A (.ipt (dT d)),A (vI k)]=some (R (vS (lineW d k x (opensM x.chart.acts 0 (d.eng.procs[a]))++nl))):=by
 have g0:=f_digits (k:Int) (by omega) (by omega)
 have z0:=decB_size (k:Int) (by omega) (by omega)
 have hsp:(⟨#[32]⟩:ByteArray).size=1:=rfl
 have hin:(⟨#[105,110,115,116,32]⟩:ByteArray).size=5:=rfl
 have hnl:(⟨#[10]⟩:ByteArray).size=1:=rfl
 have p1:=fun o1 o2=>pr_addS Tryz.prog 9 o1 o2 ⟨#[105,110,115,116,32]⟩ (decB k) (by rw[hin];omega)
 have p2:=fun o1 o2=>pr_addS Tryz.prog 9 o1 o2 (⟨#[105,110,115,116,32]⟩++decB k) ⟨#[32]⟩ (by simp only[ByteArray.size_append,hsp,hin];omega)
 have hz:=stW_size x.chart.status
 have p3:=fun o1 o2=>pr_addS Tryz.prog 9 o1 o2 (⟨#[105,110,115,116,32]⟩++decB k++⟨#[32]⟩) (stW x.chart.status) (by simp only[ByteArray.size_append,hsp,hin];omega)
 have e0:=line0 k x.chart.status
 have s0:(⟨#[105,110,115,116,32]⟩++decB k++⟨#[32]⟩++stW x.chart.status:ByteArray).size≤60:=by simp only[ByteArray.size_append,hsp,hin];omega
 have g2:=f_l9Open (d.eng.procs[a]) hl x.chart hac
 have ho:∀ v,v∈opensM x.chart.acts 0 (d.eng.procs[a])→small v:=fun v hv=>by
  have:=opens_in _ _ _ _ hv
  unfold small;omega
 have hol:=opens_few x.chart.acts (d.eng.procs[a]) 0
 have hso:=seal4_iE (opensM x.chart.acts 0 (d.eng.procs[a]))
 have lp1:=lp17v d k x hn hv x.chart.vars 0 (addW instS [decB k,stW x.chart.status]) rfl (by omega) (by rw[e0];omega)
 have s1:(addW (addW instS [decB k,stW x.chart.status]) (x.chart.vars.map decB)).size≤60000:=by
  rw[addW_size,e0]
  have:=sizes_le (r:=x.chart.vars.map decB) (k:=21) fun w hw=>by
   obtain⟨v,hv2,rfl⟩:=List.mem_map.1 hw
   exact decB_size v (hv v hv2).1 (hv v hv2).2
  rw[List.length_map] at this
  omega
 have lp2:=lp17o d hd hu k (opensM x.chart.acts 0 (d.eng.procs[a])) (by omega) ho (opensM x.chart.acts 0 (d.eng.procs[a])) 0 (addW (addW instS [decB k,stW x.chart.status]) (x.chart.vars.map decB)) rfl (by omega) (by omega)
 have s2:(lineW d k x (opensM x.chart.acts 0 (d.eng.procs[a]))).size≤1000000:=by
  unfold lineW
  rw[addW_size]
  have:=sizes_le (r:=(opensM x.chart.acts 0 (d.eng.procs[a])).map (openW d k)) (k:=50) fun w hw=>by
   obtain⟨v,hv2,rfl⟩:=List.mem_map.1 hw
   exact openW_size d hu k v (ho v hv2)
  rw[List.length_map] at this
  omega
 have p4:=fun o1 o2=>pr_addS Tryz.prog 9 o1 o2 (lineW d k x (opensM x.chart.acts 0 (d.eng.procs[a]))) ⟨#[10]⟩ (by rw[hnl];omega)
 have enl:lineW d k x (opensM x.chart.acts 0 (d.eng.procs[a]))++nl=lineW d k x (opensM x.chart.acts 0 (d.eng.procs[a]))++⟨#[10]⟩:=rfl
 have elw:lineW d k x (opensM x.chart.acts 0 (d.eng.procs[a]))=addW (addW (addW instS [decB k,stW x.chart.status]) (x.chart.vars.map decB)) ((opensM x.chart.acts 0 (d.eng.procs[a])).map (openW d k)):=rfl
 rw[enl]
 rw[elw] at p4 ⊢
 generalize addW (addW (addW instS [decB k,stW x.chart.status]) (x.chart.vars.map decB)) ((opensM x.chart.acts 0 (d.eng.procs[a])).map (openW d k))=b3 at *
 generalize addW (addW instS [decB k,stW x.chart.status]) (x.chart.vars.map decB)=b2 at *
 generalize addW instS [decB k,stW x.chart.status]=b1 at *
 rw[←e0] at p3
 generalize (⟨#[105,110,115,116,32]⟩:ByteArray)++decB k++⟨#[32]⟩=b0 at *
 have lp1:=loop_up (k':=x.chart.vars.length+(opensM x.chart.acts 0 (d.eng.procs[a])).length+1) (by omega) lp1
 have lp2:=loop_up (k':=x.chart.vars.length+(opensM x.chart.acts 0 (d.eng.procs[a])).length+1) (by omega) lp2
 simp -dsimp [Tryz.f17] at lp1 lp2
 clear hu hv ho hol s0 s1 s2 hz z0 e0 elw enl
 generalize opensM x.chart.acts 0 (d.eng.procs[a])=os at *
 have h3:x.chart.status=1∨x.chart.status=2∨x.chart.status=3:=by omega
 refine orc_17 (x.chart.vars.length+os.length+1) ?_
 rcases h3 with h3 | h3 | h3
 all_goals
  rw[h3] at p3
  simp only[cT,h3] at g2
  simp only[stW,if_true,Int.reduceEq,if_false] at p3
  simp (maxSteps:=1000000) +contextual -dsimp [Tryz.f17,hk,ex,hx,ha,h3,g0,g2,hso,p1,p2,p3,p4,lp1,lp2,List.set]
theorem users_of {d:Desk}:∀ {rest:List Claim} {i:Nat},claimsM d i rest=0→∀ c,c∈rest→1≤c.user∧c.user≤9
 | [],i,_,c,hc=>by simp at hc
 | x::rest,i,h,c,hc=>by
  simp only[claimsM] at h
  cases q:eqI (claimM d i x) 0
  ·rw[q] at h;simp only[Bool.false_eq_true,if_false] at h
   rw[h] at q;simp[eqI] at q
  ·rw[q] at h;simp only[if_true] at h
   rcases List.mem_cons.1 hc with rfl | hc
   ·have e0:claimM d i c=0:=by simpa[eqI] using q
    unfold claimM at e0
    split at e0
    ·omega
    ·rename_i hh
     simp[orB,notB,inR,andB,leI] at hh
     omega
   ·exact users_of h c hc
theorem who_in:∀ {l:List Claim},(∀ c,c∈l→1≤c.user∧c.user≤9)→∀ i s,0≤whoM l i s∧whoM l i s≤9
 | [],_,i,s=>by simp[whoM]
 | c::l,h,i,s=>by
  have h1:=h c (by simp)
  have h2:=who_in (l:=l) (fun x hx=>h x (by simp[hx])) i s
  unfold whoM
  split<;>omega
structure InstF (d:Desk) (x:Inst):Prop where
 ex:∃ (a:Nat) (ha:a<d.eng.procs.length),x.proc=a∧stepsOf d.eng x=d.eng.procs[a]∧(d.eng.procs[a]).length≤1000∧x.chart.acts.length=(d.eng.procs[a]).length
 st:1≤x.chart.status∧x.chart.status≤3
 vn:x.chart.vars.length≤1000
 vs:∀ v,v∈x.chart.vars→small v
structure DeskF (d:Desk):Prop where
 ni:d.eng.insts.length≤6
 now:0≤d.eng.now∧d.eng.now≤1000000
 nc:d.claims.length≤60
 who:∀ i s,0≤whoM d.claims i s∧whoM d.claims i s≤9
 sorted:Sorted d.claims
 insts:∀ x,x∈d.eng.insts→InstF d x
theorem varsM_zero {l:List Int} (h:varsM l=0):l.length=4∧∀ v,v∈l→small v:=by
 unfold varsM at h
 obtain⟨h1,h2⟩:=first2_zero h
 have h1:=ci_zero (by omega) h1
 have h2:=ci_zero (by omega) h2
 simp[notB,eqI] at h1
 rw[hasB_any] at h2
 refine⟨by omega,fun v hv=>?_⟩
 have:=List.any_eq_false.1 h2 v hv
 simp[badV,notB,inR,andB,leI] at this
 unfold small
 omega
theorem deskF {d:Desk} (h:deskM d=0):DeskF d:=by
 obtain⟨h1,h2,h3⟩:=deskM_all h
 obtain⟨e1,e2,e3⟩:=engM_zero h1
 refine⟨e2,?_,h2,who_in (users_of h3),sorted_of h3,fun x hx=>?_⟩
 ·unfold engM at h1
  split at h1
  ·simp at h1
  ·split at h1
   ·rename_i c;rw[h1] at c;simp[notB,eqI] at c
   ·rename_i c
    have c:engA d.eng=0:=by simpa[notB,eqI] using c
    unfold engA at c
    have c2:=(first2_zero c).2
    have c3:=ci_zero (by omega) c2
    simp[notB,inR,andB,leI] at c3
    omega
 ·have ok:=e3 x hx
  obtain⟨a,ha,hx2,h4,h5,h6⟩:=ok.at_
  have hc:=ok.chart
  obtain⟨_,z2,_,z4,_,_⟩:=chartA_zero (chartM_zero hc)
  obtain⟨z5,z6⟩:=varsM_zero z4
  have:=h5.le
  exact⟨⟨a,ha,hx2,h4,by omega,h6⟩,z2,by omega,z6⟩
def lineOf (d:Desk) (k:Nat):ByteArray:=match d.eng.insts[k]? with
 | some x=>lineW d k x (opensM x.chart.acts 0 (stepsOf d.eng x))++nl
 | none=>⟨#[]⟩
theorem f_lineS (d:Desk) (hf:DeskF d) (k:Nat) (hk:k<d.eng.insts.length):fo 17 [A (.ipt (dT d)),A (vI k)]=some (R (vS (lineOf d k))):=by
 have hx:d.eng.insts[k]∈d.eng.insts:=List.getElem_mem hk
 obtain⟨⟨a,ha,h1,h2,h3,h4⟩,h5,h6,h7⟩:=hf.insts _ hx
 have hn:=hf.ni
 have g:=f_l16 d (by have:=hf.nc;omega) hf.who k hk (by omega) _ rfl a h1 ha h3 h4 h5 h6 h7
 unfold lineOf
 rw[List.getElem?_eq_getElem hk]
 simp only[h2]
 exact g
theorem line_size (d:Desk) (hf:DeskF d) (k:Nat):(lineOf d k).size≤1000000:=by
 unfold lineOf
 split
 ·rename_i x hx
  obtain⟨hk,hx⟩:=List.getElem?_eq_some_iff.1 hx
  have hm:x∈d.eng.insts:=by rw[←hx];exact List.getElem_mem hk
  obtain⟨⟨a,ha,h1,h2,h3,h4⟩,h5,h6,h7⟩:=hf.insts x hm
  have hn:=hf.ni
  rw[h2]
  have z0:=decB_size (k:Int) (by omega) (by omega)
  have z1:=stW_size x.chart.status
  have hol:=opens_few x.chart.acts (d.eng.procs[a]) 0
  have ho:∀ v,v∈opensM x.chart.acts 0 (d.eng.procs[a])→small v:=fun v hv=>by
   have:=opens_in _ _ _ _ hv
   unfold small;omega
  have s1:=sizes_le (r:=x.chart.vars.map decB) (k:=21) fun w hw=>by
   obtain⟨v,hv2,rfl⟩:=List.mem_map.1 hw
   exact decB_size v (h7 v hv2).1 (h7 v hv2).2
  have s2:=sizes_le (r:=(opensM x.chart.acts 0 (d.eng.procs[a])).map (openW d k)) (k:=50) fun w hw=>by
   obtain⟨v,hv2,rfl⟩:=List.mem_map.1 hw
   exact openW_size d hf.who k v (ho v hv2)
  rw[List.length_map] at s1 s2
  have e1:nl.size=1:=rfl
  have e2:instS.size=4:=rfl
  unfold lineW
  simp only[ByteArray.size_append,addW_size,sizes,e1,e2]
  omega
 ·exact Nat.zero_le _
def catL (d:Desk) (acc:ByteArray):Nat→Nat→ByteArray
 | _,0=>acc
 | i,n+1=>catL d (acc++lineOf d i) (i+1) n
def nowS:ByteArray:=⟨#[110,111,119,32]⟩
def textM (d:Desk):ByteArray:=catL d (nowS++decB d.eng.now++nl) 0 d.eng.insts.length
theorem lp27 (d:Desk) (hf:DeskF d):∀ (n i:Nat) (acc:ByteArray),i+n=d.eng.insts.length→acc.size+1000000*n≤100000000→
  evLoop E (orc E) (27:Nat) (n+1) (loopOf Tryz.f27 0) ⟨29,[(0,.ipt (dT d)),(3,vS acc),(4,vI i)],[],2⟩=
  some (.exit 0,⟨29,[(0,.ipt (dT d)),(3,vS (catL d acc i n)),(4,vI d.eng.insts.length),(20,vB false)],[],2⟩)
 | 0,i,acc,h,hs=>by
  simp only[Nat.add_zero] at h
  subst h
  have hlt:ltI (d.eng.insts.length:Int) (d.eng.insts.length:Int)=false:=ltI_f (by omega)
  rw[loop_eq]
  simp +contextual -dsimp [Tryz.f27,hlt,catL]
 | n+1,i,acc,h,hs=>by
  have hi:i<d.eng.insts.length:=by omega
  have hn:=hf.ni
  obtain⟨j,ej⟩:∃ j,j=i+1:=⟨_,rfl⟩
  have hlt:ltI (i:Int) (d.eng.insts.length:Int)=true:=ltI_t (by omega)
  have hw:IntKind.i64.wrap ((i:Int)+1)=(j:Int):=by rw[wrapI]<;>omega
  have hz:=line_size d hf i
  have g:=f_lineS d hf i hi
  have p1:=fun o1 o2=>pr_addS Tryz.prog 9 o1 o2 acc (lineOf d i) (by omega)
  have ih:=lp27 d hf n j (acc++lineOf d i) (by omega) (by rw[ByteArray.size_append];omega)
  have e:catL d acc i (n+1)=catL d (acc++lineOf d i) j n:=by rw[ej];rfl
  rw[e]
  refine evLoop_next ?_ ih
  simp (maxSteps:=1000000) +contextual -dsimp [Tryz.f27,hlt,hw,g,p1,List.set]
theorem f_textS (d:Desk) (hf:DeskF d):fo 27 [A (.ipt (dT d))]=some (R (vS (textM d))):=by
 have hn:=hf.ni
 have hnow:=hf.now
 have g:=f_digits d.eng.now (by omega) (by omega)
 have z:=decB_size d.eng.now (by omega) (by omega)
 have e1:(⟨#[110,111,119,32]⟩:ByteArray).size=4:=rfl
 have e2:(⟨#[10]⟩:ByteArray).size=1:=rfl
 have p1:=fun o1 o2=>pr_addS Tryz.prog 9 o1 o2 ⟨#[110,111,119,32]⟩ (decB d.eng.now) (by rw[e1];omega)
 have p2:=fun o1 o2=>pr_addS Tryz.prog 9 o1 o2 (⟨#[110,111,119,32]⟩++decB d.eng.now) ⟨#[10]⟩ (by rw[ByteArray.size_append,e1,e2];omega)
 have lp:=lp27 d hf d.eng.insts.length 0 (⟨#[110,111,119,32]⟩++decB d.eng.now++⟨#[10]⟩) (by omega) (by simp only[ByteArray.size_append,e1,e2];omega)
 simp -dsimp [Tryz.f27] at lp
 have e3:textM d=catL d (⟨#[110,111,119,32]⟩++decB d.eng.now++⟨#[10]⟩) 0 d.eng.insts.length:=rfl
 rw[e3]
 refine orc_27 (d.eng.insts.length+1) ?_
 simp (maxSteps:=1000000) +contextual -dsimp [Tryz.f27,g,p1,p2,lp,List.set]
def instTM (d:Desk) (i:Int):Int×ByteArray:=
 if notB (eqI (deskM d) 0)=true then (deskM d,⟨#[]⟩) else if notB (inR i 0 ((d.eng.insts.length:Int) - 1))=true then (3,⟨#[]⟩) else (0,lineOf d i.toNat)
def deskTM (d:Desk):Int×ByteArray:=if notB (eqI (deskM d) 0)=true then (deskM d,⟨#[]⟩) else (0,textM d)
abbrev RT (p:Int×ByteArray):Res:=R (.agg [vI p.1,vS p.2])
theorem f4_InstText (d:Desk) (hf:FitE d.eng) (hc:d.claims.length<2 ^ 62) (i:Int):fo 6 [A (.agg (dT d)),A (vI i)]=some (RT (instTM d i)):=by
 have g0:=f_l12Fault d hf hc
 have hni:=hf.ni
 have g1:=f_l1In i 0 ((d.eng.insts.length:Int) - 1)
 have hw:IntKind.i64.wrap ((d.eng.insts.length:Int) - 1)=(d.eng.insts.length:Int) - 1:=by rw[wrapI]<;>omega
 unfold instTM
 cases q0:eqI (deskM d) 0
 ·refine orc_6 1 ?_
  simp (maxSteps:=1000000) +contextual -dsimp [Tryz.f6,g0,q0,List.set]
 ·have h0:deskM d=0:=by simpa[eqI] using q0
  rw[h0] at g0
  have e0:eqI 0 0=true:=rfl
  cases q1:inR i 0 ((d.eng.insts.length:Int) - 1)
  ·refine orc_6 1 ?_
   simp (maxSteps:=1000000) +contextual -dsimp [Tryz.f6,g0,g1,hw,e0,q1,List.set]
  ·obtain⟨k,rfl,hk⟩:=inR_nat1 q1
   have g2:=f_lineS d (deskF h0) k hk
   have e1:((k:Nat):Int).toNat=k:=by omega
   refine orc_6 1 ?_
   simp (maxSteps:=1000000) +contextual -dsimp [Tryz.f6,g0,g1,g2,hw,e0,q1,List.set]
theorem f4_DeskText (d:Desk) (hf:FitE d.eng) (hc:d.claims.length<2 ^ 62):fo 11 [A (.agg (dT d))]=some (RT (deskTM d)):=by
 have g0:=f_l12Fault d hf hc
 unfold deskTM
 cases q0:eqI (deskM d) 0
 ·refine orc_11 1 ?_
  simp (maxSteps:=1000000) +contextual -dsimp [Tryz.f11,g0,q0,List.set]
 ·have h0:deskM d=0:=by simpa[eqI] using q0
  rw[h0] at g0
  have e0:eqI 0 0=true:=rfl
  have g2:=f_textS d (deskF h0)
  refine orc_11 1 ?_
  simp (maxSteps:=1000000) +contextual -dsimp [Tryz.f11,g0,g2,e0,List.set]
abbrev wT (s:ByteArray):List T:=[vS s]
theorem oseal_W (l:List ByteArray):sealEs (l.map wT)=l.map wT:=sealEs_map (f:=wT) (g:=wT) (fun a=>by simp[sealL,seal_]) l
theorem strs_W:∀ l:List ByteArray,strsOf (l.map wT)=some l
 | []=>rfl
 | x::l=>by simp only[List.map_cons,strsOf,strs_W l]
@[simp] theorem mode_46:E.mode (46:Nat)=[]:=rfl
@[simp] theorem mode_50:E.mode (50:Nat)=[]:=rfl
theorem ext_50 (w:ByteArray) (l:List ByteArray) (h1:l.length≤10000) (h2:w.size+sizes l≤100000000):fo 50 [A (.sl 9 ((w::l).map wT)),A (vS ⟨#[32]⟩)]=some (R (vS (addW w l))):=by
 refine orc_ext (g:=joinT) rfl ?_
 have e:=join_size w l
 have h3:(w::l).length≤1048576:=by simp only[List.length_cons];omega
 have h4:(Lib.join ((w::l).map (·.data.toList)) (⟨#[32]⟩:ByteArray).data.toList).length≤1099511627776:=by
  show (Lib.join ((w::l).map (·.data.toList)) sp.data.toList).length≤_
  omega
 rw[←join_addW]
 unfold joinT
 simp only[strs_W,h3,h4,and_self,if_true]
 rfl
theorem lp24v (d:Desk) (inst:Int) (x:Inst) (hn:x.chart.vars.length≤1000) (hv:∀ v,v∈x.chart.vars→small v):∀ (rest:List Int) (i:Nat) (ws:List ByteArray),x.chart.vars.drop i=rest→i+rest.length=x.chart.vars.length→ws.length≤i+10→
  evLoop E (orc E) (24:Nat) (rest.length+1) (loopOf Tryz.f24 0) ⟨83,[(1,vI inst),(2,.ptr 2 1 [] 0),(5,.ptr 5 1 [] 0),(6,.ref 6 1 [] 0 ws.length),(31,.sl 2 (iE x.chart.vars)),(32,vI x.chart.vars.length),(33,vI i)],[(2,⟨1,1,true,dT d⟩),(5,⟨1,1,true,xT x⟩),(6,⟨1,1,false,[.own 9 (ws.map wT)]⟩)],2⟩=
  some (.exit 0,⟨83,[(1,vI inst),(2,.ptr 2 1 [] 0),(5,.ptr 5 1 [] 0),(6,.ref 6 1 [] 0 (ws++rest.map decB).length),(31,.sl 2 (iE x.chart.vars)),(32,vI x.chart.vars.length),(33,vI x.chart.vars.length),(34,vB false)],[(2,⟨1,1,true,dT d⟩),(5,⟨1,1,true,xT x⟩),(6,⟨1,1,false,[.own 9 ((ws++rest.map decB).map wT)]⟩)],2⟩)
 | [],i,ws,h,hl,hs=>by
  simp only[List.length_nil,Nat.add_zero] at hl
  subst hl
  have hlt:ltI (x.chart.vars.length:Int) (x.chart.vars.length:Int)=false:=ltI_f (by omega)
  have e:ws++([]:List Int).map decB=ws:=by simp
  rw[loop_eq,e]
  simp +contextual -dsimp [Tryz.f24,hlt]
 | v::rest,i,ws,h,hl,hs=>by
  obtain⟨hi,hc,hr⟩:=drop_cons h
  simp only[List.length_cons] at hl hs
  obtain⟨j,ej⟩:∃ j,j=i+1:=⟨_,rfl⟩
  rw[←ej] at hr
  have hlt:ltI (i:Int) (x.chart.vars.length:Int)=true:=ltI_t (by omega)
  have hw:IntKind.i64.wrap ((i:Int)+1)=(j:Int):=by rw[wrapI]<;>omega
  obtain⟨v0,v1⟩:=hv v (by rw[←hc];exact List.getElem_mem hi)
  have g:=ext_46 v v0 v1
  have hm:ws.length+1≤maxElems:=by unfold maxElems;omega
  have ih:=lp24v d inst x hn hv rest j (ws++[decB v]) hr (by omega) (by simp;omega)
  have e:ws++(v::rest).map decB=(ws++[decB v])++rest.map decB:=by simp
  rw[e]
  refine evLoop_next ?_ (by simpa only[List.length_cons] using ih)
  simp (maxSteps:=1000000) +contextual -dsimp [Tryz.f24,hlt,hi,hc,hw,g,hm,List.set]
def opW (d:Desk) (i s:Int):ByteArray:=if hasM d.claims ⟨i,s,0⟩=true then decB s++(⟨#[58]⟩++decB (clAt d.claims (posM d.claims ⟨i,s,0⟩)).user) else decB s
theorem opW_eq {d:Desk} (hf:DeskF d) (hu:∀ c,c∈d.claims→1≤c.user∧c.user≤9) (i s:Int):opW d i s=openW d i s:=by
 obtain⟨h1,h2⟩:=pos_who hf.sorted i s
 unfold opW openW
 cases q:hasM d.claims ⟨i,s,0⟩ with
 | true=>
  obtain⟨hp,hw,_⟩:=h1 q
  have hc:clAt d.claims (posM d.claims ⟨i,s,0⟩)=d.claims[posM d.claims ⟨i,s,0⟩]:=by simp[clAt,hp]
  have:=hu _ (List.getElem_mem hp)
  rw[hw,hc]
  have q2:ltI 0 (d.claims[posM d.claims ⟨i,s,0⟩]).user=true:=ltI_t (by omega)
  rw[q2]
  rfl
 | false=>
  rw[h2 q]
  rfl
theorem lp24o (d:Desk) (hf:DeskF d) (hu:∀ c,c∈d.claims→1≤c.user∧c.user≤9) (inst:Int) (all:List Int) (hn:all.length≤1000) (hv:∀ v,v∈all→small v):∀ (rest:List Int) (i:Nat) (ws:List ByteArray),all.drop i=rest→i+rest.length=all.length→ws.length≤i+10000→
  evLoop E (orc E) (24:Nat) (rest.length+1) (loopOf Tryz.f24 1) ⟨83,[(1,vI inst),(2,.ptr 2 1 [] 0),(6,.ref 6 1 [] 0 ws.length),(49,.sl 2 (iE all)),(50,vI all.length),(51,vI i)],[(2,⟨1,1,true,dT d⟩),(6,⟨1,1,false,[.own 9 (ws.map wT)]⟩)],2⟩=
  some (.exit 2,⟨83,[(1,vI inst),(2,.ptr 2 1 [] 0),(6,.ref 6 1 [] 0 (ws++rest.map (opW d inst)).length),(49,.sl 2 (iE all)),(50,vI all.length),(51,vI all.length),(52,vB false)],[(2,⟨1,1,true,dT d⟩),(6,⟨1,1,false,[.own 9 ((ws++rest.map (opW d inst)).map wT)]⟩)],2⟩)
 | [],i,ws,h,hl,hs=>by
  simp only[List.length_nil,Nat.add_zero] at hl
  subst hl
  have hlt:ltI (all.length:Int) (all.length:Int)=false:=ltI_f (by omega)
  have e:ws++([]:List Int).map (opW d inst)=ws:=by simp
  rw[loop_eq,e]
  simp +contextual -dsimp [Tryz.f24,hlt]
 | v::rest,i,ws,h,hl,hs=>by
  obtain⟨hi,hc,hr⟩:=drop_cons h
  simp only[List.length_cons] at hl hs
  obtain⟨j,ej⟩:∃ j,j=i+1:=⟨_,rfl⟩
  rw[←ej] at hr
  have hlt:ltI (i:Int) (all.length:Int)=true:=ltI_t (by omega)
  have hw:IntKind.i64.wrap ((i:Int)+1)=(j:Int):=by rw[wrapI]<;>omega
  obtain⟨v0,v1⟩:=hv v (by rw[←hc];exact List.getElem_mem hi)
  have g:=ext_46 v v0 v1
  have hz:=decB_size v v0 v1
  have hm:ws.length+1≤maxElems:=by unfold maxElems;omega
  have g2:=f_claim d (by have:=hf.nc;omega) inst v
  have ih:=lp24o d hf hu inst all hn hv rest j (ws++[opW d inst v]) hr (by omega) (by simp;omega)
  have e:ws++(v::rest).map (opW d inst)=(ws++[opW d inst v])++rest.map (opW d inst):=by simp
  rw[e]
  have hco:(⟨#[58]⟩:ByteArray).size=1:=rfl
  cases q:hasM d.claims ⟨inst,v,0⟩ with
  | true=>
   obtain⟨hp,_,_⟩:=(pos_who hf.sorted inst v).1 q
   have e1:opW d inst v=decB v++(⟨#[58]⟩++decB (clAt d.claims (posM d.claims ⟨inst,v,0⟩)).user):=by unfold opW;rw[q];rfl
   rw[e1] at ih ⊢
   rw[q] at g2
   generalize posM d.claims ⟨inst,v,0⟩=pk at *
   have hc2:clAt d.claims pk=d.claims[pk]:=by simp[clAt,hp]
   have hus:=hu _ (List.getElem_mem hp)
   rw[hc2] at ih ⊢
   have g3:=ext_46 (d.claims[pk]).user (by omega) (by omega)
   have hz3:=decB_size (d.claims[pk]).user (by omega) (by omega)
   have p1:=fun o1 o2=>pr_addS Tryz.prog 9 o1 o2 ⟨#[58]⟩ (decB (d.claims[pk]).user) (by rw[hco];omega)
   have p2:=fun o1 o2=>pr_addS Tryz.prog 9 o1 o2 (decB v) (⟨#[58]⟩++decB (d.claims[pk]).user) (by rw[ByteArray.size_append,hco];omega)
   refine evLoop_next ?_ (by simpa only[List.length_cons] using ih)
   simp (maxSteps:=1000000) +contextual -dsimp [Tryz.f24,hlt,hi,hc,hw,g,g2,g3,p1,p2,hp,hm,List.set]
  | false=>
   have e1:opW d inst v=decB v:=by unfold opW;rw[q];rfl
   rw[e1] at ih ⊢
   rw[q] at g2
   refine evLoop_next ?_ (by simpa only[List.length_cons] using ih)
   simp (maxSteps:=1000000) +contextual -dsimp [Tryz.f24,hlt,hi,hc,hw,g,g2,hm,List.set]
theorem f_i24 (d:Desk) (hf:DeskF d) (hu:∀ c,c∈d.claims→1≤c.user∧c.user≤9) (k:Nat) (hk:k<d.eng.insts.length) (hk2:k≤1000) (x:Inst) (ex:d.eng.insts[k]=x) (a:Nat) (hx:x.proc=a) (ha:a<d.eng.procs.length)
  (hl:(d.eng.procs[a]).length≤1000) (hac:x.chart.acts.length=(d.eng.procs[a]).length) (hst:1≤x.chart.status∧x.chart.status≤3) (hn:x.chart.vars.length≤1000) (hv:∀ v,v∈x.chart.vars→small v):
  fo 24 [A (.agg (dT d)),A (vI k)]=some (R (vS (lineW d k x (opensM x.chart.acts 0 (d.eng.procs[a]))++nl))):=by
 have g0:=ext_46 (k:Int) (by omega) (by omega)
 have z0:=decB_size (k:Int) (by omega) (by omega)
 have hz:=stW_size x.chart.status
 have g1:=f_steps d.eng x a hx ha
 have g2:=f_openSteps (d.eng.procs[a]) hl x.chart hac
 have ho:∀ v,v∈opensM x.chart.acts 0 (d.eng.procs[a])→small v:=fun v hv=>by
  have:=opens_in _ _ _ _ hv
  unfold small;omega
 have hol:=opens_few x.chart.acts (d.eng.procs[a]) 0
 have hso:=seal4_iE (opensM x.chart.acts 0 (d.eng.procs[a]))
 have lp1:=lp24v d k x hn hv x.chart.vars 0 [instS,decB k,stW x.chart.status] rfl (by omega) (by simp)
 have lp2:=lp24o d hf hu k (opensM x.chart.acts 0 (d.eng.procs[a])) (by omega) ho (opensM x.chart.acts 0 (d.eng.procs[a])) 0 ([instS,decB k,stW x.chart.status]++x.chart.vars.map decB) rfl (by omega) (by simp;omega)
 have eo:(opensM x.chart.acts 0 (d.eng.procs[a])).map (opW d k)=(opensM x.chart.acts 0 (d.eng.procs[a])).map (openW d k):=List.map_congr_left fun s _=>opW_eq hf hu k s
 rw[eo] at lp2
 have s1:=sizes_le (r:=x.chart.vars.map decB) (k:=21) fun w hw=>by
  obtain⟨v,hv2,rfl⟩:=List.mem_map.1 hw
  exact decB_size v (hv v hv2).1 (hv v hv2).2
 have s2:=sizes_le (r:=(opensM x.chart.acts 0 (d.eng.procs[a])).map (openW d k)) (k:=50) fun w hw=>by
  obtain⟨v,hv2,rfl⟩:=List.mem_map.1 hw
  exact openW_size d hf.who k v (ho v hv2)
 rw[List.length_map] at s1 s2
 have ew:lineW d k x (opensM x.chart.acts 0 (d.eng.procs[a]))=addW instS ([decB k,stW x.chart.status]++x.chart.vars.map decB++(opensM x.chart.acts 0 (d.eng.procs[a])).map (openW d k)):=by
  rw[addW_app,addW_app];rfl
 have sz:∀ (p q:List ByteArray),sizes (p++q)=sizes p+sizes q:=by
  intro p q
  induction p with
  | nil=>simp[sizes]
  | cons w p ih=>simp only[List.cons_append,sizes,ih];omega
 have hsz:instS.size+sizes ([decB k,stW x.chart.status]++x.chart.vars.map decB++(opensM x.chart.acts 0 (d.eng.procs[a])).map (openW d k))≤1000000:=by
  have e1:instS.size=4:=rfl
  rw[sz,sz,e1]
  simp only[sizes]
  omega
 have g3:=ext_50 instS ([decB k,stW x.chart.status]++x.chart.vars.map decB++(opensM x.chart.acts 0 (d.eng.procs[a])).map (openW d k)) (by simp;omega) (by omega)
 rw[←ew] at g3
 have s3:(lineW d k x (opensM x.chart.acts 0 (d.eng.procs[a]))).size≤1000000:=by
  rw[ew,addW_size];exact hsz
 have hnl:(⟨#[10]⟩:ByteArray).size=1:=rfl
 have p4:=fun o1 o2=>pr_addS Tryz.prog 9 o1 o2 (lineW d k x (opensM x.chart.acts 0 (d.eng.procs[a]))) ⟨#[10]⟩ (by rw[hnl];omega)
 have enl:lineW d k x (opensM x.chart.acts 0 (d.eng.procs[a]))++nl=lineW d k x (opensM x.chart.acts 0 (d.eng.procs[a]))++⟨#[10]⟩:=rfl
 rw[enl]
 have e4:([instS,decB k,stW x.chart.status]++x.chart.vars.map decB++(opensM x.chart.acts 0 (d.eng.procs[a])).map (openW d k))=instS::([decB k,stW x.chart.status]++x.chart.vars.map decB++(opensM x.chart.acts 0 (d.eng.procs[a])).map (openW d k)):=rfl
 rw[←e4] at g3
 have hse:=oseal_W ([instS,decB k,stW x.chart.status]++x.chart.vars.map decB++(opensM x.chart.acts 0 (d.eng.procs[a])).map (openW d k))
 generalize lineW d k x (opensM x.chart.acts 0 (d.eng.procs[a]))=b3 at *
 generalize ([instS,decB k,stW x.chart.status]++x.chart.vars.map decB++(opensM x.chart.acts 0 (d.eng.procs[a])).map (openW d k))=ws2 at *
 generalize ([instS,decB k,stW x.chart.status]++x.chart.vars.map decB)=ws1 at *
 have lp1:=loop_up (k':=x.chart.vars.length+(opensM x.chart.acts 0 (d.eng.procs[a])).length+1) (by omega) lp1
 have lp2:=loop_up (k':=x.chart.vars.length+(opensM x.chart.acts 0 (d.eng.procs[a])).length+1) (by omega) lp2
 clear hu hv ho hol s1 s2 s3 hz z0 enl hsz sz eo
 generalize opensM x.chart.acts 0 (d.eng.procs[a])=os at *
 have h3:x.chart.status=1∨x.chart.status=2∨x.chart.status=3:=by omega
 have w0:IntKind.i64.wrap 0=0:=rfl
 have w1:IntKind.i64.wrap 1=1:=rfl
 have w2:IntKind.i64.wrap 2=2:=rfl
 have ki:pureRun Tryz.prog (isArr 92 9 3)=some true:=by kernel_rfl
 simp only[instS] at lp1
 simp -dsimp [Tryz.f24] at lp1 lp2
 refine orc_24 (x.chart.vars.length+os.length+1) ?_
 rcases h3 with h3 | h3 | h3
 all_goals
  rw[h3] at lp1
  simp only[stW,if_true,Int.reduceEq,if_false] at lp1
  simp only[cT,xT,h3,hx] at g1 g2 lp1
  simp (maxSteps:=1000000) +contextual -dsimp [Tryz.f24,hk,ex,hx,ha,h3,g0,g1,g2,g3,hso,hse,p4,lp1,lp2,ki,theArr,theWords,w0,w1,w2,List.set]
end Go.TM.It
