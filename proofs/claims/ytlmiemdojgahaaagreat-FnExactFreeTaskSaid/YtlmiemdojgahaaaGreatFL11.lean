/- What functions of the program come to, by the machine. -/
import Derived.Test.YtlmiemdojgahaaaGreatFL10
import Derived.Test.YtlmiemdojgahaaaGreatFL9
import Derived.Test.YtlmiemdojgahaaaGreatFL8
import Derived.Test.YtlmiemdojgahaaaGreatFL1
set_option linter.unusedSimpArgs false
set_option linter.unusedVariables false
namespace Go.TM.Ft
open Go Go.TM Go.Proofs
def Ah (a b:Claim):Prop:=a.inst < b.inst∨(a.inst=b.inst∧a.step < b.step)
theorem ahead_iff (a b:Claim):aheadM a b=true ↔ Ah a b:=by
 simp [aheadM,Ah,orB,andB,ltI,eqI]
theorem cmp_lt (a b:Claim):ltI (cmpC a b) 0=aheadM a b:=by
 have h:=ahead_cmp a b
 cases q:aheadM a b
 ·rw [q] at h; simp only [notB,Bool.not_false,leI,decide_eq_true_eq] at h
  exact ltI_f (by omega)
 ·rw [q] at h; simp only [notB,Bool.not_true,leI,decide_eq_false_iff_not] at h
  exact ltI_t (by omega)
theorem cmp_zero (a b:Claim):eqI (cmpC a b) 0=true ↔ a.inst=b.inst∧a.step=b.step:=by
 unfold cmpC first2 cmpI
 by_cases h1:a.inst < b.inst
 ·simp [ltI,eqI,h1]; omega
 ·by_cases h2:b.inst < a.inst
  ·simp [ltI,eqI,h1,h2]; omega
  ·have h3:a.inst=b.inst:=by omega
   by_cases h4:a.step < b.step
   ·simp [ltI,eqI,h3,h4]; omega
   ·by_cases h5:b.step < a.step
    ·simp [ltI,eqI,h3,h4,h5]; omega
    ·simp [ltI,eqI,h3,h4,h5]; omega
theorem Ah.trans {a b c:Claim} (h1:Ah a b) (h2:Ah b c):Ah a c:=by unfold Ah at *; omega
def Sorted (l:List Claim):Prop:=∀ i j (hj:j < l.length) (h:i < j),Ah (l[i]'(by omega)) l[j]
theorem claimsM_step {d:Desk}:∀ {rest:List Claim} {i:Nat},d.claims.drop i=rest→claimsM d i rest=0→∀ k,i≤k→k < d.claims.length→0 < k→Ah (clAt d.claims (k - 1)) (clAt d.claims k)
 | [],i,h,_,k,h1,h2,_=>by
  have:d.claims.length≤i:=by simpa using h
  omega
 | c::rest,i,h,hz,k,h1,h2,h3=>by
  obtain ⟨hi,hc,hr⟩:=drop_cons h
  simp only [claimsM] at hz
  cases q:eqI (claimM d i c) 0
  ·rw [q] at hz; simp only [Bool.false_eq_true,if_false] at hz
   rw [hz] at q; simp [eqI] at q
  ·rw [q] at hz; simp only [if_true] at hz
   rcases Nat.lt_or_ge i k with hk | hk
   ·exact claimsM_step hr hz k hk h2 h3
   ·obtain rfl:k=i:=by omega
    have e0:claimM d k c=0:=by simpa [eqI] using q
    have e1:clAt d.claims k=c:=by simp [clAt,hi,hc]
    rw [e1,← ahead_iff]
    have h0:ltI 0 (k:Int)=true:=ltI_t (by omega)
    unfold claimM at e0
    split at e0
    ·omega
    ·split at e0
     ·omega
     ·split at e0
      ·omega
      ·rename_i hh
       rw [h0,ahead_cmp] at hh
       cases q5:aheadM (clAt d.claims (k - 1)) c
       ·rw [q5] at hh; simp [andB,notB] at hh
       ·rfl
theorem sorted_of {d:Desk} (h:claimsM d 0 d.claims=0):Sorted d.claims:=by
 have hs:=claimsM_step (d:=d) (i:=0) rfl h
 have:∀ n i j (hj:j < d.claims.length) (h:i < j),j - i≤n+1→Ah (d.claims[i]'(by omega)) d.claims[j]:=by
  intro n
  induction n with
  | zero=>
   intro i j hj hij hn
   obtain rfl:j=i+1:=by omega
   have:=hs (i+1) (by omega) hj (by omega)
   have hi:i < d.claims.length:=by omega
   simpa [clAt,hj,hi] using this
  | succ n ih=>
   intro i j hj hij hn
   rcases Nat.lt_or_ge (i+1) j with h1 | h1
   ·have a:=ih i (j - 1) (by omega) (by omega) (by omega)
    have b:=ih (j - 1) j hj (by omega) (by omega)
    exact a.trans b
   ·exact ih i j hj hij (by omega)
 exact fun i j hj hij=>this (j - i) i j hj hij (by omega)
theorem bsM_at {l:List Claim} {x:Claim} (hs:Sorted l):∀ (n lo hi:Nat),hi - lo≤n→lo≤hi→hi≤l.length→
  (∀ k (h:k < l.length),k < lo→Ah l[k] x)→(∀ k (h:k < l.length),hi≤k→¬ Ah l[k] x)→
  (∀ k (h:k < l.length),k < bsM l x n lo hi→Ah l[k] x)∧(∀ k (h:k < l.length),bsM l x n lo hi≤k→¬ Ah l[k] x)
 | 0,lo,hi,h1,h2,h3,ha,hb=>by
  obtain rfl:lo=hi:=by omega
  exact ⟨ha,hb⟩
 | n+1,lo,hi,h1,h2,h3,ha,hb=>by
  unfold bsM
  by_cases hlh:lo < hi
  ·rw [if_pos hlh]
   obtain ⟨m,hm⟩:∃ m,m=(lo+hi) / 2:=⟨_,rfl⟩
   rw [← hm]
   have hml:m < l.length:=by omega
   have hc:clAt l m=l[m]:=by simp [clAt,hml]
   rw [hc,cmp_lt]
   cases q:aheadM l[m] x
   ·have q':¬ Ah l[m] x:=fun h=>by rw [← ahead_iff,q] at h; cases h
    refine bsM_at hs n lo m (by omega) (by omega) (by omega) ha fun k h hk=>?_
    rcases Nat.lt_or_ge m k with hk2 | hk2
    ·exact fun h9=>q' ((hs m k h hk2).trans h9)
    ·obtain rfl:k=m:=by omega
     exact q'
   ·have q':=(ahead_iff _ _).1 q
    refine bsM_at hs n (m+1) hi (by omega) (by omega) (by omega) (fun k h hk=>?_) hb
    rcases Nat.lt_or_ge k m with hk2 | hk2
    ·exact (hs k m hml hk2).trans q'
    ·obtain rfl:k=m:=by omega
     exact q'
  ·rw [if_neg hlh]
   obtain rfl:lo=hi:=by omega
   exact ⟨ha,hb⟩
theorem same_iff (c:Claim) (i s:Int):sameB c i s=true ↔ c.inst=i∧c.step=s:=by simp [sameB,andB,eqI]
theorem keep_same (c:Claim) (i s:Int):keepB i s c=notB (sameB c i s):=by
 unfold keepB sameB; cases eqI c.inst i <;> cases eqI c.step s <;> rfl
theorem pos_at {l:List Claim} (hs:Sorted l) (i s:Int):
  (hasM l ⟨i,s,0⟩=true→∃ h:posM l ⟨i,s,0⟩ < l.length,sameB (l[posM l ⟨i,s,0⟩]) i s=true∧∀ k (h:k < l.length),k≠posM l ⟨i,s,0⟩→sameB l[k] i s=false)∧
  (hasM l ⟨i,s,0⟩=false→∀ c,c∈l→sameB c i s=false):=by
 obtain ⟨h1,h2⟩:=bsM_at (x:=⟨i,s,0⟩) hs l.length 0 l.length (by omega) (by omega) (by omega) (fun k _ h=>by omega) (fun k h h9=>by omega)
 have e:posM l ⟨i,s,0⟩=bsM l ⟨i,s,0⟩ l.length 0 l.length:=rfl
 rw [← e] at h1 h2
 unfold hasM
 generalize posM l ⟨i,s,0⟩=p at *
 have ns:∀ c:Claim,Ah c ⟨i,s,0⟩→sameB c i s=false:=fun c h=>by
  cases q:sameB c i s
  ·rfl
  ·rw [same_iff] at q; unfold Ah at h; simp only at h; omega
 constructor
 ·intro h
  have hp:p < l.length:=by simp [andB,ltI] at h; omega
  have hc:clAt l p=l[p]:=by simp [clAt,hp]
  have hz:eqI (cmpC l[p] ⟨i,s,0⟩) 0=true:=by rw [hc] at h; simp only [andB,Bool.and_eq_true] at h; exact h.2
  rw [cmp_zero] at hz
  refine ⟨hp,(same_iff _ _ _).2 hz,fun k hk hkp=>?_⟩
  rcases Nat.lt_or_ge k p with h3 | h3
  ·exact ns _ (h1 k hk h3)
  ·have h4:=hs p k hk (by omega)
   cases q:sameB l[k] i s
   ·rfl
   ·rw [same_iff] at q; unfold Ah at h4; simp only at hz; omega
 ·intro h c hc
  obtain ⟨k,hk,rfl⟩:=List.mem_iff_getElem.1 hc
  rcases Nat.lt_or_ge k p with h3 | h3
  ·exact ns _ (h1 k hk h3)
  ·have hp:p < l.length:=by omega
   have hcl:clAt l p=l[p]:=by simp [clAt,hp]
   have hlt:ltI (p:Int) (l.length:Int)=true:=ltI_t (by omega)
   rw [hcl,hlt] at h
   have hz:¬ (l[p].inst=i∧l[p].step=s):=fun hh=>by
    have:=(cmp_zero l[p] ⟨i,s,0⟩).2 hh
    rw [this] at h; simp [andB] at h
   cases q:sameB l[k] i s
   ·rfl
   ·rw [same_iff] at q
    have h5:=h2 p hp (Nat.le_refl _)
    rcases Nat.lt_or_ge p k with h6 | h6
    ·have h7:=hs p k hk h6
     unfold Ah at h5 h7; simp only at h5; omega
    ·obtain rfl:k=p:=by omega
     exact absurd q hz
theorem whoM_app {i s:Int}:∀ {a b:List Claim},(∀ c,c∈a→sameB c i s=false)→whoM (a++b) i s=whoM b i s
 | [],_,_=>rfl
 | c::a,b,h=>by
  simp only [List.cons_append,whoM,h c (by simp)]
  exact whoM_app fun c hc=>h c (by simp [hc])
theorem pos_who {l:List Claim} (hs:Sorted l) (i s:Int):
  (hasM l ⟨i,s,0⟩=true→posM l ⟨i,s,0⟩ < l.length∧whoM l i s=(clAt l (posM l ⟨i,s,0⟩)).user∧withoutM l i s=l.take (posM l ⟨i,s,0⟩)++l.drop (posM l ⟨i,s,0⟩+1))∧
  (hasM l ⟨i,s,0⟩=false→whoM l i s=0):=by
 obtain ⟨h1,h2⟩:=pos_at hs i s
 refine ⟨fun h=>?_,fun h=>whoM_none (h2 h)⟩
 obtain ⟨hp,hsame,hoth⟩:=h1 h
 generalize posM l ⟨i,s,0⟩=p at *
 have hcl:clAt l p=l[p]:=by simp [clAt,hp]
 have e:l=l.take p++l[p]::l.drop (p+1):=by rw [← List.drop_eq_getElem_cons hp,List.take_append_drop]
 have ha:∀ c,c∈l.take p→sameB c i s=false:=fun c hc=>by
  obtain ⟨k,hk,rfl⟩:=List.mem_iff_getElem.1 hc
  rw [List.length_take] at hk
  rw [List.getElem_take]
  exact hoth k (by omega) (by omega)
 have hb:∀ c,c∈l.drop (p+1)→sameB c i s=false:=fun c hc=>by
  obtain ⟨k,hk,rfl⟩:=List.mem_iff_getElem.1 hc
  rw [List.length_drop] at hk
  rw [List.getElem_drop]
  exact hoth (p+1+k) (by omega) (by omega)
 refine ⟨hp,?_,?_⟩
 ·rw [hcl]
  conv=>lhs; rw [e]
  rw [whoM_app ha]
  simp [whoM,hsame]
 ·unfold withoutM
  conv=>lhs; rw [e]
  rw [List.filter_append,List.filter_cons]
  have k0:keepB i s l[p]=false:=by rw [keep_same,hsame]; rfl
  rw [k0,if_neg (by simp)]
  congr 1
  ·exact List.filter_eq_self.2 fun c hc=>by rw [keep_same,ha c hc]; rfl
  ·exact List.filter_eq_self.2 fun c hc=>by rw [keep_same,hb c hc]; rfl
end Go.TM.Ft
namespace Go.TM.Ft
open Go Go.TM Go.Proofs
set_option maxRecDepth 20000
attribute [local congr] gif_cg
attribute [local simp] footOf noClash clash upsets setsHit setHits layHits layMeets setsMeet evFeet seal4_iE seal4_set clean_iE osealed_Node oclean_Node oclean_Proc oclean_Inst oclean_int oclean_Claim
theorem isV_kT (l:List Claim):(l.map kT).all (·.all isV)=true:=by
 rw [List.all_eq_true]; intro c hc; obtain ⟨x,_,rfl⟩:=List.mem_map.1 hc; rfl
theorem f_DeleteK (l:List Claim) (p:Nat) (hp:p < l.length):
  fo 101 [⟨.ref 0 0 [] 0 l.length,some ⟨0,0,false,[.own 150 (l.map kT)]⟩⟩,A (vI (p:Nat)),A (vI ((p:Int)+1))]=some ⟨.own 150 ((l.take p++l.drop (p+1)).map kT),[],true⟩:=by
 rw [show ((p:Int)+1)=((p+1:Nat):Int) from rfl]
 refine orc_ext (g:=delT 150) rfl ?_
 have h1:=isV_kT l
 simp only [delT]
 rw [if_pos ⟨trivial,by simp,by omega,by omega,by omega,h1⟩]
 simp only [Int.toNat_natCast,List.map_append,List.map_take,List.map_drop]
theorem user_ok {d:Desk} {u i s:Int} (h:taskM d u i s=0):
  (eqI (whoM d.claims i s) u=true→userM d u i s=(((posM d.claims ⟨i,s,0⟩:Nat):Int),(0:Int))∧posM d.claims ⟨i,s,0⟩ < d.claims.length∧withoutM d.claims i s=d.claims.take (posM d.claims ⟨i,s,0⟩)++d.claims.drop (posM d.claims ⟨i,s,0⟩+1))∧
  (eqI (whoM d.claims i s) u=false→(userM d u i s).2=10):=by
 obtain ⟨z1,z2,_,_⟩:=taskM_zero h
 obtain ⟨p1,p2⟩:=pos_who (sorted_of (deskM_all z1).2.2) i s
 have e:userM d u i s=(((posM d.claims ⟨i,s,0⟩:Nat):Int),ci (orB (notB (hasM d.claims ⟨i,s,0⟩)) (notB (eqI (clAt d.claims (posM d.claims ⟨i,s,0⟩)).user u))) 10):=by
  unfold userM; rw [h]; simp [notB,eqI]
 rw [e]
 cases q:hasM d.claims ⟨i,s,0⟩
 ·have w:=p2 q
  rw [w]
  refine ⟨fun h9=>?_,fun _=>by simp [orB,notB,ci]⟩
  have:u=0:=by simp [eqI] at h9; omega
  rw [this] at z2; simp [inR,andB,leI] at z2
 ·obtain ⟨w1,w2,w3⟩:=p1 q
  rw [w2]
  refine ⟨fun h9=>⟨?_,w1,w3⟩,fun h9=>by simp [orB,notB,ci,h9]⟩
  simp [orB,notB,ci,h9]
set_option maxHeartbeats 4000000 in
theorem f_FreeTask (d:Desk) (hf:FitE d.eng) (h:SmD d) (u i s:Int):fo 32 [A (.agg (dT d)),A (vI u),A (vI i),A (vI s)]=some (RDk (freeM d u i s)):=by
 have hc:=h.claims
 have g1:=f_userCode d hf (by omega) u i s
 have g2:=f_cloneD d h
 unfold freeM
 cases q:eqI (taskM d u i s) 0
 ·have e:userM d u i s=(0,taskM d u i s):=by unfold userM; rw [q]; rfl
  rw [e] at g1
  refine orc_32 1 ?_
  simp (maxSteps:=1000000) +contextual -dsimp [Tryz.f32,g1,q,badD,noD,List.set]
 ·have e0:taskM d u i s=0:=by simpa [eqI] using q
  obtain ⟨p1,p2⟩:=user_ok e0
  cases q2:eqI (whoM d.claims i s) u
  ·have e:=p2 q2
   generalize userM d u i s=p at *
   obtain ⟨a,b⟩:=p
   simp only at e
   subst e
   have h10:eqI 10 0=false:=rfl
   refine orc_32 1 ?_
   simp (maxSteps:=1000000) +contextual -dsimp [Tryz.f32,g1,h10,badD,noD,List.set]
  ·obtain ⟨e,hp,hw⟩:=p1 q2
   rw [e] at g1
   rw [hw]
   have h60:=(deskM_all (taskM_zero e0).1).2.1
   generalize posM d.claims ⟨i,s,0⟩=p at *
   have g3:=f_DeleteK d.claims p hp
   have hcl:=oclean_Claim (d.claims.take p++d.claims.drop (p+1))
   generalize hr:d.claims.take p++d.claims.drop (p+1)=r at *
   have hwr:IntKind.i64.wrap ((p:Int)+1)=(p:Int)+1:=by rw [wrapI] <;> omega
   have h00:eqI 0 0=true:=rfl
   refine orc_32 1 ?_
   simp (maxSteps:=1000000) +contextual -dsimp [Tryz.f32,g1,g2,g3,hwr,h00,hcl,List.set]
end Go.TM.Ft
namespace Go.TM.Ft
open Go Go.TM Go.Proofs
set_option maxRecDepth 20000
attribute [local congr] gif_cg
attribute [local simp] footOf noClash clash upsets setsHit setHits layHits layMeets setsMeet evFeet seal4_iE seal4_set clean_iE osealed_Node oclean_Node oclean_Proc oclean_Inst oclean_int
end Go.TM.Ft
namespace Go.TM.Ft
open Go Go.TM Go.Proofs
section
variable (P:Program) (t:TypeId) (x y:Operand)
theorem pr_cvt (a:Int):pureRun Tryz.prog (convert 3 5 (.int .i64 a))=some (.int .u8 (IntKind.u8.wrap a)):=by kernel_rfl
theorem pr_u8:pureRun Tryz.prog (isU8Slice 88 9)=some true:=by kernel_rfl
end
end Go.TM.Ft
namespace Go.TM.Ft
open Go Go.TM Go.Proofs
set_option maxRecDepth 20000
attribute [local congr] gif_cg
attribute [local simp] footOf noClash clash upsets setsHit setHits layHits layMeets setsMeet evFeet
section
variable (P:Program) (t:TypeId) (x y:Operand)
theorem pr_rem10 (a:Int):pureRun P (do eqGuard .rem t x y (.int .i64 a) (.int .i64 10); binOp .rem t (.int .i64 a) (.int .i64 10))=some (.int .i64 (Int.tmod a 10)):=rfl
theorem pr_quo10 (a:Int):pureRun P (do eqGuard .quo t x y (.int .i64 a) (.int .i64 10); binOp .quo t (.int .i64 a) (.int .i64 10))=some (.int .i64 (IntKind.i64.wrap (Int.tdiv a 10))):=pr_quoX P t x y a 10 (by omega)
theorem pr_addS (a b:ByteArray) (h:a.size+b.size < 2 ^ 62):pureRun P (do eqGuard .add t x y (.string a) (.string b); binOp .add t (.string a) (.string b))=some (.string (a++b)):=by
 have e:¬ (((a.size+b.size:Nat):Int) > IntKind.i64.max):=by
  have:IntKind.i64.max=9223372036854775807:=rfl
  rw [this]; omega
 unfold binOp
 simp only [eqGuard,Op.stringOp,if_neg e]
 rfl
end
theorem lp85:∀ (f:Nat) (k:Int) (out:ByteArray),0≤k→k < 10 ^ f→k < 2 ^ 61→out.size+f≤100→
  ∃ s:ByteArray,s.size≤100∧evLoop E (orc E) (85:Nat) (f+1) (loopOf Tryz.f85 0) ⟨20,[(0,vI k),(3,vS out)],[],2⟩=some (.exit 0,⟨20,[(0,vI 0),(3,vS s),(7,vB false)],[],2⟩)
 | f,k,out,h0,h1,h2,h3=>by
  rcases Int.lt_or_eq_of_le h0 with hk | hk
  ·match f with
   | 0=>simp at h1; omega
   | f+1=>
    have hlt:ltI 0 k=true:=ltI_t hk
    have hm0:0≤k.tmod 10:=Int.tmod_nonneg _ h0
    have hm1:k.tmod 10 < 10:=Int.tmod_lt_of_pos _ (by omega)
    have w:IntKind.i64.wrap (48+k.tmod 10)=48+k.tmod 10:=by rw [wrapI] <;> omega
    have ed:k.tdiv 10=k / 10:=Int.tdiv_eq_ediv_of_nonneg h0
    have hd0:0≤k.tdiv 10:=by rw [ed]; omega
    have hd1:k.tdiv 10 < 10 ^ f:=by rw [ed]; rw [Int.pow_succ] at h1; omega
    have hd2:k.tdiv 10 < 2 ^ 61:=by rw [ed]; omega
    have w2:IntKind.i64.wrap (k.tdiv 10)=k.tdiv 10:=by rw [wrapI] <;> omega
    obtain ⟨b,w3⟩:∃ b,IntKind.u8.wrap (48+k.tmod 10)=b:=⟨_,rfl⟩
    have hs:(⟨#[UInt8.ofNat b.toNat]⟩:ByteArray).size=1:=rfl
    have hsz:((⟨#[UInt8.ofNat b.toNat]⟩:ByteArray)++out).size=1+out.size:=by rw [ByteArray.size_append,hs]
    obtain ⟨s,g1,g2⟩:=lp85 f (k.tdiv 10) (⟨#[UInt8.ofNat b.toNat]⟩++out) hd0 hd1 hd2 (by rw [hsz]; omega)
    have p1:=pr_rem10 Tryz.prog 3 (.tmp 8) (.const (.int .i64 10)) k
    have p2:=pr_quo10 Tryz.prog 3 (.tmp 16) (.const (.int .i64 10)) k
    have p3:=pr_addS Tryz.prog 9 (.tmp 13) (.tmp 14) ⟨#[UInt8.ofNat b.toNat]⟩ out (by rw [hs]; omega)
    refine ⟨s,g1,evLoop_next ?_ g2⟩
    generalize (⟨#[UInt8.ofNat b.toNat]⟩:ByteArray)++out=out' at *
    generalize k.tdiv 10=d at *
    simp (maxSteps:=1000000) +contextual -dsimp [Tryz.f85,hlt,p1,p2,p3,pr_cvt,pr_u8,w,w2,w3,bytesOfT,List.set]
  ·subst hk
   have hlt:ltI 0 0=false:=rfl
   refine ⟨out,by omega,evLoop_out ?_ (by simp)⟩
   simp (maxSteps:=1000000) +contextual -dsimp [Tryz.f85,hlt,List.set]
theorem markText_ex (k:Int) (h0:0≤k) (h1:k < 2 ^ 61):∃ s:ByteArray,fo 85 [A (vI k)]=some (R (vS s)):=by
 cases q:leI k 0
 ·obtain ⟨s,h2,h3⟩:=lp85 20 k ⟨#[]⟩ h0 (by omega) h1 (by show 0+20≤100; omega)
  have hs:(⟨#[109]⟩:ByteArray).size=1:=rfl
  have p3:=pr_addS Tryz.prog 9 (.const (.string ⟨#[109]⟩)) (.tmp 18) ⟨#[109]⟩ s (by rw [hs]; omega)
  refine ⟨⟨#[109]⟩++s,orc_85 21 ?_⟩
  simp -dsimp [Tryz.f85] at h3
  simp (maxSteps:=1000000) +contextual -dsimp [Tryz.f85,q,h3,p3,List.set]
 ·refine ⟨⟨#[109,48]⟩,orc_85 1 ?_⟩
  simp (maxSteps:=1000000) +contextual -dsimp [Tryz.f85,q,List.set]
open Classical in
noncomputable def mkTx (k:Int):ByteArray:=if h:∃ s:ByteArray,fo 85 [A (vI k)]=some (R (vS s)) then Classical.choose h else ⟨#[]⟩
theorem o_markText (k:Int) (h0:0≤k) (h1:k < 2 ^ 61):fo 85 [A (vI k)]=some (R (vS (mkTx k))):=by
 have h:=markText_ex k h0 h1
 unfold mkTx
 rw [dif_pos h]
 exact Classical.choose_spec h
end Go.TM.Ft
namespace Go.TM.Ft
open Go Go.TM Go.Proofs
set_option maxRecDepth 20000
attribute [local congr] gif_cg
attribute [local simp] footOf noClash clash upsets setsHit setHits layHits layMeets setsMeet evFeet
def wDeskResult (x:DeskR):Nat:=wDesk x.desk
end Go.TM.Ft
