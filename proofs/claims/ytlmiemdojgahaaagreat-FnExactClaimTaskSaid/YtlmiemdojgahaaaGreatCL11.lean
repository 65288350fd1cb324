/- What functions of the program come to, by the machine. -/
import Derived.Test.YtlmiemdojgahaaaGreatCL10
import Derived.Test.YtlmiemdojgahaaaGreatCL9
import Derived.Test.YtlmiemdojgahaaaGreatCL8
import Derived.Test.YtlmiemdojgahaaaGreatCL1
set_option linter.unusedSimpArgs false
set_option linter.unusedVariables false
namespace Go.TM.Ft
open Go Go.TM Go.Proofs
def Ah (a b:Claim):Prop:=a.inst < b.inst∨(a.inst=b.inst∧a.step < b.step)
theorem ahead_iff (a b:Claim):aheadM a b=true ↔ Ah a b:=by
 simp [aheadM,Ah,orB,andB,ltI,eqI]
theorem cmp_lt (a b:Claim):ltI (cmpC a b) 0=aheadM a b:=by
 have h:=ahead_cmp a b
 cases q:aheadM a b
 ·rw [q] at h; simp only [notB,Bool.not_false,leI,decide_eq_true_eq] at h
  exact ltI_f (by omega)
 ·rw [q] at h; simp only [notB,Bool.not_true,leI,decide_eq_false_iff_not] at h
  exact ltI_t (by omega)
theorem cmp_zero (a b:Claim):eqI (cmpC a b) 0=true ↔ a.inst=b.inst∧a.step=b.step:=by
 unfold cmpC first2 cmpI
 by_cases h1:a.inst < b.inst
 ·simp [ltI,eqI,h1]; omega
 ·by_cases h2:b.inst < a.inst
  ·simp [ltI,eqI,h1,h2]; omega
  ·have h3:a.inst=b.inst:=by omega
   by_cases h4:a.step < b.step
   ·simp [ltI,eqI,h3,h4]; omega
   ·by_cases h5:b.step < a.step
    ·simp [ltI,eqI,h3,h4,h5]; omega
    ·simp [ltI,eqI,h3,h4,h5]; omega
theorem Ah.trans {a b c:Claim} (h1:Ah a b) (h2:Ah b c):Ah a c:=by unfold Ah at *; omega
def Sorted (l:List Claim):Prop:=∀ i j (hj:j < l.length) (h:i < j),Ah (l[i]'(by omega)) l[j]
theorem claimsM_step {d:Desk}:∀ {rest:List Claim} {i:Nat},d.claims.drop i=rest→claimsM d i rest=0→∀ k,i≤k→k < d.claims.length→0 < k→Ah (clAt d.claims (k - 1)) (clAt d.claims k)
 | [],i,h,_,k,h1,h2,_=>by
  have:d.claims.length≤i:=by simpa using h
  omega
 | c::rest,i,h,hz,k,h1,h2,h3=>by
  obtain ⟨hi,hc,hr⟩:=drop_cons h
  simp only [claimsM] at hz
  cases q:eqI (claimM d i c) 0
  ·rw [q] at hz; simp only [Bool.false_eq_true,if_false] at hz
   rw [hz] at q; simp [eqI] at q
  ·rw [q] at hz; simp only [if_true] at hz
   rcases Nat.lt_or_ge i k with hk | hk
   ·exact claimsM_step hr hz k hk h2 h3
   ·obtain rfl:k=i:=by omega
    have e0:claimM d k c=0:=by simpa [eqI] using q
    have e1:clAt d.claims k=c:=by simp [clAt,hi,hc]
    rw [e1,← ahead_iff]
    have h0:ltI 0 (k:Int)=true:=ltI_t (by omega)
    unfold claimM at e0
    split at e0
    ·omega
    ·split at e0
     ·omega
     ·split at e0
      ·omega
      ·rename_i hh
       rw [h0,ahead_cmp] at hh
       cases q5:aheadM (clAt d.claims (k - 1)) c
       ·rw [q5] at hh; simp [andB,notB] at hh
       ·rfl
theorem sorted_of {d:Desk} (h:claimsM d 0 d.claims=0):Sorted d.claims:=by
 have hs:=claimsM_step (d:=d) (i:=0) rfl h
 have:∀ n i j (hj:j < d.claims.length) (h:i < j),j - i≤n+1→Ah (d.claims[i]'(by omega)) d.claims[j]:=by
  intro n
  induction n with
  | zero=>
   intro i j hj hij hn
   obtain rfl:j=i+1:=by omega
   have:=hs (i+1) (by omega) hj (by omega)
   have hi:i < d.claims.length:=by omega
   simpa [clAt,hj,hi] using this
  | succ n ih=>
   intro i j hj hij hn
   rcases Nat.lt_or_ge (i+1) j with h1 | h1
   ·have a:=ih i (j - 1) (by omega) (by omega) (by omega)
    have b:=ih (j - 1) j hj (by omega) (by omega)
    exact a.trans b
   ·exact ih i j hj hij (by omega)
 exact fun i j hj hij=>this (j - i) i j hj hij (by omega)
theorem bsM_at {l:List Claim} {x:Claim} (hs:Sorted l):∀ (n lo hi:Nat),hi - lo≤n→lo≤hi→hi≤l.length→
  (∀ k (h:k < l.length),k < lo→Ah l[k] x)→(∀ k (h:k < l.length),hi≤k→¬ Ah l[k] x)→
  (∀ k (h:k < l.length),k < bsM l x n lo hi→Ah l[k] x)∧(∀ k (h:k < l.length),bsM l x n lo hi≤k→¬ Ah l[k] x)
 | 0,lo,hi,h1,h2,h3,ha,hb=>by
  obtain rfl:lo=hi:=by omega
  exact ⟨ha,hb⟩
 | n+1,lo,hi,h1,h2,h3,ha,hb=>by
  unfold bsM
  by_cases hlh:lo < hi
  ·rw [if_pos hlh]
   obtain ⟨m,hm⟩:∃ m,m=(lo+hi) / 2:=⟨_,rfl⟩
   rw [← hm]
   have hml:m < l.length:=by omega
   have hc:clAt l m=l[m]:=by simp [clAt,hml]
   rw [hc,cmp_lt]
   cases q:aheadM l[m] x
   ·have q':¬ Ah l[m] x:=fun h=>by rw [← ahead_iff,q] at h; cases h
    refine bsM_at hs n lo m (by omega) (by omega) (by omega) ha fun k h hk=>?_
    rcases Nat.lt_or_ge m k with hk2 | hk2
    ·exact fun h9=>q' ((hs m k h hk2).trans h9)
    ·obtain rfl:k=m:=by omega
     exact q'
   ·have q':=(ahead_iff _ _).1 q
    refine bsM_at hs n (m+1) hi (by omega) (by omega) (by omega) (fun k h hk=>?_) hb
    rcases Nat.lt_or_ge k m with hk2 | hk2
    ·exact (hs k m hml hk2).trans q'
    ·obtain rfl:k=m:=by omega
     exact q'
  ·rw [if_neg hlh]
   obtain rfl:lo=hi:=by omega
   exact ⟨ha,hb⟩
theorem same_iff (c:Claim) (i s:Int):sameB c i s=true ↔ c.inst=i∧c.step=s:=by simp [sameB,andB,eqI]
theorem keep_same (c:Claim) (i s:Int):keepB i s c=notB (sameB c i s):=by
 unfold keepB sameB; cases eqI c.inst i <;> cases eqI c.step s <;> rfl
theorem pos_at {l:List Claim} (hs:Sorted l) (i s:Int):
  (hasM l ⟨i,s,0⟩=true→∃ h:posM l ⟨i,s,0⟩ < l.length,sameB (l[posM l ⟨i,s,0⟩]) i s=true∧∀ k (h:k < l.length),k≠posM l ⟨i,s,0⟩→sameB l[k] i s=false)∧
  (hasM l ⟨i,s,0⟩=false→∀ c,c∈l→sameB c i s=false):=by
 obtain ⟨h1,h2⟩:=bsM_at (x:=⟨i,s,0⟩) hs l.length 0 l.length (by omega) (by omega) (by omega) (fun k _ h=>by omega) (fun k h h9=>by omega)
 have e:posM l ⟨i,s,0⟩=bsM l ⟨i,s,0⟩ l.length 0 l.length:=rfl
 rw [← e] at h1 h2
 unfold hasM
 generalize posM l ⟨i,s,0⟩=p at *
 have ns:∀ c:Claim,Ah c ⟨i,s,0⟩→sameB c i s=false:=fun c h=>by
  cases q:sameB c i s
  ·rfl
  ·rw [same_iff] at q; unfold Ah at h; simp only at h; omega
 constructor
 ·intro h
  have hp:p < l.length:=by simp [andB,ltI] at h; omega
  have hc:clAt l p=l[p]:=by simp [clAt,hp]
  have hz:eqI (cmpC l[p] ⟨i,s,0⟩) 0=true:=by rw [hc] at h; simp only [andB,Bool.and_eq_true] at h; exact h.2
  rw [cmp_zero] at hz
  refine ⟨hp,(same_iff _ _ _).2 hz,fun k hk hkp=>?_⟩
  rcases Nat.lt_or_ge k p with h3 | h3
  ·exact ns _ (h1 k hk h3)
  ·have h4:=hs p k hk (by omega)
   cases q:sameB l[k] i s
   ·rfl
   ·rw [same_iff] at q; unfold Ah at h4; simp only at hz; omega
 ·intro h c hc
  obtain ⟨k,hk,rfl⟩:=List.mem_iff_getElem.1 hc
  rcases Nat.lt_or_ge k p with h3 | h3
  ·exact ns _ (h1 k hk h3)
  ·have hp:p < l.length:=by omega
   have hcl:clAt l p=l[p]:=by simp [clAt,hp]
   have hlt:ltI (p:Int) (l.length:Int)=true:=ltI_t (by omega)
   rw [hcl,hlt] at h
   have hz:¬ (l[p].inst=i∧l[p].step=s):=fun hh=>by
    have:=(cmp_zero l[p] ⟨i,s,0⟩).2 hh
    rw [this] at h; simp [andB] at h
   cases q:sameB l[k] i s
   ·rfl
   ·rw [same_iff] at q
    have h5:=h2 p hp (Nat.le_refl _)
    rcases Nat.lt_or_ge p k with h6 | h6
    ·have h7:=hs p k hk h6
     unfold Ah at h5 h7; simp only at h5; omega
    ·obtain rfl:k=p:=by omega
     exact absurd q hz
theorem whoM_app {i s:Int}:∀ {a b:List Claim},(∀ c,c∈a→sameB c i s=false)→whoM (a++b) i s=whoM b i s
 | [],_,_=>rfl
 | c::a,b,h=>by
  simp only [List.cons_append,whoM,h c (by simp)]
  exact whoM_app fun c hc=>h c (by simp [hc])
theorem pos_who {l:List Claim} (hs:Sorted l) (i s:Int):
  (hasM l ⟨i,s,0⟩=true→posM l ⟨i,s,0⟩ < l.length∧whoM l i s=(clAt l (posM l ⟨i,s,0⟩)).user∧withoutM l i s=l.take (posM l ⟨i,s,0⟩)++l.drop (posM l ⟨i,s,0⟩+1))∧
  (hasM l ⟨i,s,0⟩=false→whoM l i s=0):=by
 obtain ⟨h1,h2⟩:=pos_at hs i s
 refine ⟨fun h=>?_,fun h=>whoM_none (h2 h)⟩
 obtain ⟨hp,hsame,hoth⟩:=h1 h
 generalize posM l ⟨i,s,0⟩=p at *
 have hcl:clAt l p=l[p]:=by simp [clAt,hp]
 have e:l=l.take p++l[p]::l.drop (p+1):=by rw [← List.drop_eq_getElem_cons hp,List.take_append_drop]
 have ha:∀ c,c∈l.take p→sameB c i s=false:=fun c hc=>by
  obtain ⟨k,hk,rfl⟩:=List.mem_iff_getElem.1 hc
  rw [List.length_take] at hk
  rw [List.getElem_take]
  exact hoth k (by omega) (by omega)
 have hb:∀ c,c∈l.drop (p+1)→sameB c i s=false:=fun c hc=>by
  obtain ⟨k,hk,rfl⟩:=List.mem_iff_getElem.1 hc
  rw [List.length_drop] at hk
  rw [List.getElem_drop]
  exact hoth (p+1+k) (by omega) (by omega)
 refine ⟨hp,?_,?_⟩
 ·rw [hcl]
  conv=>lhs; rw [e]
  rw [whoM_app ha]
  simp [whoM,hsame]
 ·unfold withoutM
  conv=>lhs; rw [e]
  rw [List.filter_append,List.filter_cons]
  have k0:keepB i s l[p]=false:=by rw [keep_same,hsame]; rfl
  rw [k0,if_neg (by simp)]
  congr 1
  ·exact List.filter_eq_self.2 fun c hc=>by rw [keep_same,ha c hc]; rfl
  ·exact List.filter_eq_self.2 fun c hc=>by rw [keep_same,hb c hc]; rfl
end Go.TM.Ft
namespace Go.TM.Ft
open Go Go.TM Go.Proofs
set_option maxRecDepth 20000
attribute [local congr] gif_cg
attribute [local simp] footOf noClash clash upsets setsHit setHits layHits layMeets setsMeet evFeet seal4_iE seal4_set clean_iE osealed_Node oclean_Node oclean_Proc oclean_Inst oclean_int oclean_Claim
theorem isV_kT (l:List Claim):(l.map kT).all (·.all isV)=true:=by
 rw [List.all_eq_true]; intro c hc; obtain ⟨x,_,rfl⟩:=List.mem_map.1 hc; rfl
end Go.TM.Ft
namespace Go.TM.Ft
open Go Go.TM Go.Proofs
set_option maxRecDepth 20000
attribute [local congr] gif_cg
attribute [local simp] footOf noClash clash upsets setsHit setHits layHits layMeets setsMeet evFeet seal4_iE seal4_set clean_iE osealed_Node oclean_Node oclean_Proc oclean_Inst oclean_int
end Go.TM.Ft
namespace Go.TM.Ft
open Go Go.TM Go.Proofs
section
variable (P:Program) (t:TypeId) (x y:Operand)
theorem pr_cvt (a:Int):pureRun Tryz.prog (convert 3 5 (.int .i64 a))=some (.int .u8 (IntKind.u8.wrap a)):=by kernel_rfl
theorem pr_u8:pureRun Tryz.prog (isU8Slice 88 9)=some true:=by kernel_rfl
end
end Go.TM.Ft
namespace Go.TM.Ft
open Go Go.TM Go.Proofs
set_option maxRecDepth 20000
attribute [local congr] gif_cg
attribute [local simp] footOf noClash clash upsets setsHit setHits layHits layMeets setsMeet evFeet
section
variable (P:Program) (t:TypeId) (x y:Operand)
theorem pr_rem10 (a:Int):pureRun P (do eqGuard .rem t x y (.int .i64 a) (.int .i64 10); binOp .rem t (.int .i64 a) (.int .i64 10))=some (.int .i64 (Int.tmod a 10)):=rfl
theorem pr_quo10 (a:Int):pureRun P (do eqGuard .quo t x y (.int .i64 a) (.int .i64 10); binOp .quo t (.int .i64 a) (.int .i64 10))=some (.int .i64 (IntKind.i64.wrap (Int.tdiv a 10))):=pr_quoX P t x y a 10 (by omega)
theorem pr_addS (a b:ByteArray) (h:a.size+b.size < 2 ^ 62):pureRun P (do eqGuard .add t x y (.string a) (.string b); binOp .add t (.string a) (.string b))=some (.string (a++b)):=by
 have e:¬ (((a.size+b.size:Nat):Int) > IntKind.i64.max):=by
  have:IntKind.i64.max=9223372036854775807:=rfl
  rw [this]; omega
 unfold binOp
 simp only [eqGuard,Op.stringOp,if_neg e]
 rfl
end
theorem lp85:∀ (f:Nat) (k:Int) (out:ByteArray),0≤k→k < 10 ^ f→k < 2 ^ 61→out.size+f≤100→
  ∃ s:ByteArray,s.size≤100∧evLoop E (orc E) (85:Nat) (f+1) (loopOf Tryz.f85 0) ⟨20,[(0,vI k),(3,vS out)],[],2⟩=some (.exit 0,⟨20,[(0,vI 0),(3,vS s),(7,vB false)],[],2⟩)
 | f,k,out,h0,h1,h2,h3=>by
  rcases Int.lt_or_eq_of_le h0 with hk | hk
  ·match f with
   | 0=>simp at h1; omega
   | f+1=>
    have hlt:ltI 0 k=true:=ltI_t hk
    have hm0:0≤k.tmod 10:=Int.tmod_nonneg _ h0
    have hm1:k.tmod 10 < 10:=Int.tmod_lt_of_pos _ (by omega)
    have w:IntKind.i64.wrap (48+k.tmod 10)=48+k.tmod 10:=by rw [wrapI] <;> omega
    have ed:k.tdiv 10=k / 10:=Int.tdiv_eq_ediv_of_nonneg h0
    have hd0:0≤k.tdiv 10:=by rw [ed]; omega
    have hd1:k.tdiv 10 < 10 ^ f:=by rw [ed]; rw [Int.pow_succ] at h1; omega
    have hd2:k.tdiv 10 < 2 ^ 61:=by rw [ed]; omega
    have w2:IntKind.i64.wrap (k.tdiv 10)=k.tdiv 10:=by rw [wrapI] <;> omega
    obtain ⟨b,w3⟩:∃ b,IntKind.u8.wrap (48+k.tmod 10)=b:=⟨_,rfl⟩
    have hs:(⟨#[UInt8.ofNat b.toNat]⟩:ByteArray).size=1:=rfl
    have hsz:((⟨#[UInt8.ofNat b.toNat]⟩:ByteArray)++out).size=1+out.size:=by rw [ByteArray.size_append,hs]
    obtain ⟨s,g1,g2⟩:=lp85 f (k.tdiv 10) (⟨#[UInt8.ofNat b.toNat]⟩++out) hd0 hd1 hd2 (by rw [hsz]; omega)
    have p1:=pr_rem10 Tryz.prog 3 (.tmp 8) (.const (.int .i64 10)) k
    have p2:=pr_quo10 Tryz.prog 3 (.tmp 16) (.const (.int .i64 10)) k
    have p3:=pr_addS Tryz.prog 9 (.tmp 13) (.tmp 14) ⟨#[UInt8.ofNat b.toNat]⟩ out (by rw [hs]; omega)
    refine ⟨s,g1,evLoop_next ?_ g2⟩
    generalize (⟨#[UInt8.ofNat b.toNat]⟩:ByteArray)++out=out' at *
    generalize k.tdiv 10=d at *
    simp (maxSteps:=1000000) +contextual -dsimp [Tryz.f85,hlt,p1,p2,p3,pr_cvt,pr_u8,w,w2,w3,bytesOfT,List.set]
  ·subst hk
   have hlt:ltI 0 0=false:=rfl
   refine ⟨out,by omega,evLoop_out ?_ (by simp)⟩
   simp (maxSteps:=1000000) +contextual -dsimp [Tryz.f85,hlt,List.set]
theorem markText_ex (k:Int) (h0:0≤k) (h1:k < 2 ^ 61):∃ s:ByteArray,fo 85 [A (vI k)]=some (R (vS s)):=by
 cases q:leI k 0
 ·obtain ⟨s,h2,h3⟩:=lp85 20 k ⟨#[]⟩ h0 (by omega) h1 (by show 0+20≤100; omega)
  have hs:(⟨#[109]⟩:ByteArray).size=1:=rfl
  have p3:=pr_addS Tryz.prog 9 (.const (.string ⟨#[109]⟩)) (.tmp 18) ⟨#[109]⟩ s (by rw [hs]; omega)
  refine ⟨⟨#[109]⟩++s,orc_85 21 ?_⟩
  simp -dsimp [Tryz.f85] at h3
  simp (maxSteps:=1000000) +contextual -dsimp [Tryz.f85,q,h3,p3,List.set]
 ·refine ⟨⟨#[109,48]⟩,orc_85 1 ?_⟩
  simp (maxSteps:=1000000) +contextual -dsimp [Tryz.f85,q,List.set]
open Classical in
noncomputable def mkTx (k:Int):ByteArray:=if h:∃ s:ByteArray,fo 85 [A (vI k)]=some (R (vS s)) then Classical.choose h else ⟨#[]⟩
theorem o_markText (k:Int) (h0:0≤k) (h1:k < 2 ^ 61):fo 85 [A (vI k)]=some (R (vS (mkTx k))):=by
 have h:=markText_ex k h0 h1
 unfold mkTx
 rw [dif_pos h]
 exact Classical.choose_spec h
end Go.TM.Ft
namespace Go.TM.Ft
open Go Go.TM Go.Proofs
set_option maxRecDepth 20000
attribute [local congr] gif_cg
attribute [local simp] footOf noClash clash upsets setsHit setHits layHits layMeets setsMeet evFeet
def wDeskResult (x:DeskR):Nat:=wDesk x.desk
end Go.TM.Ft
namespace Go.TM.Ft
open Go Go.TM Go.Proofs
set_option maxRecDepth 20000
attribute [local congr] gif_cg
attribute [local simp] footOf noClash clash upsets setsHit setHits layHits layMeets setsMeet evFeet
noncomputable section
def mksint:Int→List Int→List Int
 | _,[]=>[]
 | k,_::r=>k::mksint (k+1) r
def ctsint (l:List Int):Nat:=l.length
theorem ctsint_nil:ctsint []=0:=rfl
theorem ctsint_cons (x:Int) (r:List Int):ctsint (x::r)=1+ctsint r:=by simp only [ctsint,List.length_cons]; omega
def ctNode (x:Node):Nat:=1+1+1+1
def ctsNode:List Node→Nat
 | []=>0
 | x::r=>ctNode x+ctsNode r
theorem ctsNode_nil:ctsNode []=0:=rfl
theorem ctsNode_cons (x:Node) (r:List Node):ctsNode (x::r)=ctNode x+ctsNode r:=rfl
def mkNode (k:Int) (x:Node):Node:={ kind:=k,value:=k+1,left:=k+1+1,right:=k+1+1+1 }
def mksNode:Int→List Node→List Node
 | _,[]=>[]
 | k,x::r=>mkNode k x::mksNode (k+(ctNode x:Nat)) r
def ctStep (x:Step):Nat:=1+1+1+1+ctsNode x.cond+ctsNode x.expr
def ctsStep:List Step→Nat
 | []=>0
 | x::r=>ctStep x+ctsStep r
theorem ctsStep_nil:ctsStep []=0:=rfl
theorem ctsStep_cons (x:Step) (r:List Step):ctsStep (x::r)=ctStep x+ctsStep r:=rfl
def mkStep (k:Int) (x:Step):Step:={ kind:=k,parent:=k+1,name:=mkTx (k+1+1),arg:=k+1+1+1,cond:=mksNode (k+1+1+1+1) x.cond,expr:=mksNode (k+1+1+1+1+(ctsNode x.cond:Nat)) x.expr }
def mksStep:Int→List Step→List Step
 | _,[]=>[]
 | k,x::r=>mkStep k x::mksStep (k+(ctStep x:Nat)) r
def ctProc (x:List Step):Nat:=ctsStep x
def ctsProc:List (List Step)→Nat
 | []=>0
 | x::r=>ctProc x+ctsProc r
theorem ctsProc_nil:ctsProc []=0:=rfl
theorem ctsProc_cons (x:List Step) (r:List (List Step)):ctsProc (x::r)=ctProc x+ctsProc r:=rfl
def mkProc (k:Int) (x:List Step):List Step:=mksStep (k) x
def mksProc:Int→List (List Step)→List (List Step)
 | _,[]=>[]
 | k,x::r=>mkProc k x::mksProc (k+(ctProc x:Nat)) r
def ctInst (x:Inst):Nat:=1+1+1+ctsint x.chart.vars+ctsint x.chart.acts+ctsint x.chart.dues
def ctsInst:List Inst→Nat
 | []=>0
 | x::r=>ctInst x+ctsInst r
theorem ctsInst_nil:ctsInst []=0:=rfl
theorem ctsInst_cons (x:Inst) (r:List Inst):ctsInst (x::r)=ctInst x+ctsInst r:=rfl
def mkInst (k:Int) (x:Inst):Inst:={ proc:=k,chart:={ status:=k+1,now:=k+1+1,vars:=mksint (k+1+1+1) x.chart.vars,acts:=mksint (k+1+1+1+(ctsint x.chart.vars:Nat)) x.chart.acts,dues:=mksint (k+1+1+1+(ctsint x.chart.vars:Nat)+(ctsint x.chart.acts:Nat)) x.chart.dues } }
def mksInst:Int→List Inst→List Inst
 | _,[]=>[]
 | k,x::r=>mkInst k x::mksInst (k+(ctInst x:Nat)) r
def ctClaim (x:Claim):Nat:=1+1+1
def ctsClaim:List Claim→Nat
 | []=>0
 | x::r=>ctClaim x+ctsClaim r
theorem ctsClaim_nil:ctsClaim []=0:=rfl
theorem ctsClaim_cons (x:Claim) (r:List Claim):ctsClaim (x::r)=ctClaim x+ctsClaim r:=rfl
def mkClaim (k:Int) (x:Claim):Claim:={ inst:=k,step:=k+1,user:=k+1+1 }
def mksClaim:Int→List Claim→List Claim
 | _,[]=>[]
 | k,x::r=>mkClaim k x::mksClaim (k+(ctClaim x:Nat)) r
end
set_option maxHeartbeats 4000000 in
theorem lmkintS (n:Nat) (hn:n≤2097152):∀ (rest:List Int) (i:Nat) (es:List (List T)) (k:Int),es.length=n→i+rest.length=n→es.drop i=rest.map iV→0≤k→k+(ctsint rest:Nat) < 2 ^ 60→
  evLoop E (orc E) (25:Nat) (rest.length+1) (loopOf Tryz.f25 0) ⟨19,[(0,.ref 0 0 [] 0 n),(1,vI k),(5,vI i)],[(0,⟨0,0,false,[.own 2 es]⟩)],2⟩=
  some (.exit 0,⟨19,[(0,.ref 0 0 [] 0 n),(1,vI (k+(ctsint rest:Nat))),(5,vI (n:Nat)),(9,vB false)],[(0,⟨0,0,false,[.own 2 (es.take i++(mksint k rest).map iV)]⟩)],2⟩)
 | [],i,es,k,hl,hi,h,h0,h1=>by
  have e:i=n:=by simpa using hi
  subst e
  have hlt:ltI (i:Int) (i:Int)=false:=ltI_f (by omega)
  have ht:es.take i=es:=List.take_of_length_le (by omega)
  rw [loop_eq]
  simp +contextual -dsimp [Tryz.f25,hlt,ht,ctsint_nil,mksint]
 | x::rest,i,es,k,hl,hi,h,h0,h1=>by
  simp only [List.length_cons] at hi
  have hin:i < n:=by omega
  have hi2:i < es.length:=by omega
  have hlt:ltI (i:Int) (n:Int)=true:=ltI_t (by omega)
  have hw:IntKind.i64.wrap ((i:Int)+1)=((i+1:Nat):Int):=by rw [wrapI] <;> omega
  have hd:=List.drop_eq_getElem_cons hi2
  rw [h,List.map_cons,List.cons.injEq] at hd
  obtain ⟨hz1,hr⟩:=hd
  have hz1:=hz1.symm
  rw [ctsint_cons] at h1
  obtain ⟨k1,e1⟩:∃ z,z=k+1:=⟨_,rfl⟩
  have w0:IntKind.i64.wrap (k+1)=k1:=by rw [e1,wrapI] <;> omega
  have hk:k1+(ctsint rest:Nat)=k+(ctsint (x::rest):Nat):=by rw [ctsint_cons]; omega
  have hm:mksint k (x::rest)=k::mksint k1 rest:=by rw [e1]; rfl
  have ih:=lmkintS n hn rest (i+1) (es.set i (iV k)) k1 (by simpa using hl) (by omega) (by rw [List.drop_set_of_lt (by omega)]; exact hr.symm) (by omega) (by omega)
  have hes:(es.set i (iV k)).take (i+1)=es.take i++[iV k]:=by
   rw [List.take_add_one,List.take_set_of_le (Nat.le_refl _)]
   simp [hi2]
  rw [hk,hes,List.append_assoc] at ih
  rw [hm]
  refine evLoop_next ?_ (by simpa only [List.length_cons,List.map_cons,List.singleton_append] using ih)
  simp (maxSteps:=1000000) +contextual -dsimp [Tryz.f25,hlt,hi2,hin,hw,hz1,hl,w0,lendEff,lendOne,lendMany,firstRef,lendRow,lendCell,putRow,putBack,valArg,List.set]
set_option maxHeartbeats 4000000 in
theorem o_markInt64S (l:List Int) (k:Int) (h0:0≤k) (h1:k+(ctsint l:Nat) < 2 ^ 60) (hn:l.length≤2097152):∃ b,fo 25 [⟨.ref 0 0 [] 0 l.length,some ⟨0,0,false,[.own 2 (l.map iV)]⟩⟩,A (vI k)]=some ⟨vI (k+(ctsint l:Nat)),[(0,[.own 2 ((mksint k l).map iV)])],b⟩:=by
 have hlp:=lmkintS l.length hn l 0 (l.map iV) k (by simp) (by simp) rfl h0 (by omega)
 have hcl:=oclean_int (mksint k l)
 refine ⟨true,orc_25 (l.length+1) ?_⟩
 generalize k+(ctsint l:Nat)=k' at *
 generalize mksint k l=l' at *
 simp -dsimp [Tryz.f25] at hlp
 simp (maxSteps:=1000000) +contextual -dsimp [Tryz.f25,hlp,hcl,finishL,mergeL,List.set]
set_option maxHeartbeats 4000000 in
theorem lmkNodeS (n:Nat) (hn:n≤2097152):∀ (rest:List Node) (i:Nat) (es:List (List T)) (k:Int),es.length=n→i+rest.length=n→es.drop i=rest.map nT→0≤k→k+(ctsNode rest:Nat) < 2 ^ 60→
  evLoop E (orc E) (86:Nat) (rest.length+1) (loopOf Tryz.f86 0) ⟨41,[(0,.ref 0 0 [] 0 n),(1,vI k),(5,vI i)],[(0,⟨0,0,false,[.own 219 es]⟩)],2⟩=
  some (.exit 0,⟨41,[(0,.ref 0 0 [] 0 n),(1,vI (k+(ctsNode rest:Nat))),(5,vI (n:Nat)),(9,vB false)],[(0,⟨0,0,false,[.own 219 (es.take i++(mksNode k rest).map nT)]⟩)],2⟩)
 | [],i,es,k,hl,hi,h,h0,h1=>by
  have e:i=n:=by simpa using hi
  subst e
  have hlt:ltI (i:Int) (i:Int)=false:=ltI_f (by omega)
  have ht:es.take i=es:=List.take_of_length_le (by omega)
  rw [loop_eq]
  simp +contextual -dsimp [Tryz.f86,hlt,ht,ctsNode_nil,mksNode]
 | x::rest,i,es,k,hl,hi,h,h0,h1=>by
  simp only [List.length_cons] at hi
  have hin:i < n:=by omega
  have hi2:i < es.length:=by omega
  have hlt:ltI (i:Int) (n:Int)=true:=ltI_t (by omega)
  have hw:IntKind.i64.wrap ((i:Int)+1)=((i+1:Nat):Int):=by rw [wrapI] <;> omega
  have hd:=List.drop_eq_getElem_cons hi2
  rw [h,List.map_cons,List.cons.injEq] at hd
  obtain ⟨hz1,hr⟩:=hd
  have hz1:=hz1.symm
  rw [ctsNode_cons] at h1
  simp only [ctNode] at h1
  obtain ⟨k1,e1⟩:∃ z,z=k+1:=⟨_,rfl⟩
  have w0:IntKind.i64.wrap (k+1)=k1:=by rw [e1,wrapI] <;> omega
  obtain ⟨k2,e2⟩:∃ z,z=k1+1:=⟨_,rfl⟩
  have w1:IntKind.i64.wrap (k1+1)=k2:=by rw [e2,wrapI] <;> omega
  obtain ⟨k3,e3⟩:∃ z,z=k2+1:=⟨_,rfl⟩
  have w2:IntKind.i64.wrap (k2+1)=k3:=by rw [e3,wrapI] <;> omega
  obtain ⟨k4,e4⟩:∃ z,z=k3+1:=⟨_,rfl⟩
  have w3:IntKind.i64.wrap (k3+1)=k4:=by rw [e4,wrapI] <;> omega
  have hk:k4+(ctsNode rest:Nat)=k+(ctsNode (x::rest):Nat):=by rw [ctsNode_cons]; simp only [ctNode]; omega
  have hm:mksNode k (x::rest)=({ kind:=k,value:=k1,left:=k2,right:=k3 }:Node)::mksNode k4 rest:=by
   have e:k4=k+(ctNode x:Nat):=by simp only [ctNode]; omega
   have e2:mkNode k x=({ kind:=k,value:=k1,left:=k2,right:=k3 }:Node):=by subst_vars; rfl
   simp only [mksNode]; rw [e2,e]
  have ih:=lmkNodeS n hn rest (i+1) (es.set i (nT ({ kind:=k,value:=k1,left:=k2,right:=k3 }:Node))) k4 (by simpa using hl) (by omega) (by rw [List.drop_set_of_lt (by omega)]; exact hr.symm) (by omega) (by omega)
  have hes:(es.set i (nT ({ kind:=k,value:=k1,left:=k2,right:=k3 }:Node))).take (i+1)=es.take i++[nT ({ kind:=k,value:=k1,left:=k2,right:=k3 }:Node)]:=by
   rw [List.take_add_one,List.take_set_of_le (Nat.le_refl _)]
   simp [hi2]
  rw [hk,hes,List.append_assoc] at ih
  rw [hm]
  refine evLoop_next ?_ (by simpa only [List.length_cons,List.map_cons,List.singleton_append] using ih)
  simp (maxSteps:=1000000) +contextual -dsimp [Tryz.f86,hlt,hi2,hin,hw,hz1,hl,w0,w1,w2,w3,lendEff,lendOne,lendMany,firstRef,lendRow,lendCell,putRow,putBack,valArg,List.set]
set_option maxHeartbeats 4000000 in
theorem o_markNodeS (l:List Node) (k:Int) (h0:0≤k) (h1:k+(ctsNode l:Nat) < 2 ^ 60) (hn:l.length≤2097152):∃ b,fo 86 [⟨.ref 0 0 [] 0 l.length,some ⟨0,0,false,[.own 219 (l.map nT)]⟩⟩,A (vI k)]=some ⟨vI (k+(ctsNode l:Nat)),[(0,[.own 219 ((mksNode k l).map nT)])],b⟩:=by
 have hlp:=lmkNodeS l.length hn l 0 (l.map nT) k (by simp) (by simp) rfl h0 (by omega)
 have hcl:=oclean_Node (mksNode k l)
 refine ⟨true,orc_86 (l.length+1) ?_⟩
 generalize k+(ctsNode l:Nat)=k' at *
 generalize mksNode k l=l' at *
 simp -dsimp [Tryz.f86] at hlp
 simp (maxSteps:=1000000) +contextual -dsimp [Tryz.f86,hlp,hcl,finishL,mergeL,List.set]
set_option maxHeartbeats 4000000 in
theorem lmkStepS (n:Nat) (hn:n≤2097152):∀ (rest:List Step) (i:Nat) (es:List (List T)) (k:Int),es.length=n→i+rest.length=n→es.drop i=rest.map StepO→(∀ x,x∈rest→wStep x≤2097152)→0≤k→k+(ctsStep rest:Nat) < 2 ^ 60→
  evLoop E (orc E) (24:Nat) (rest.length+1) (loopOf Tryz.f24 0) ⟨56,[(0,.ref 0 0 [] 0 n),(1,vI k),(5,vI i)],[(0,⟨0,0,false,[.own 124 es]⟩)],2⟩=
  some (.exit 0,⟨56,[(0,.ref 0 0 [] 0 n),(1,vI (k+(ctsStep rest:Nat))),(5,vI (n:Nat)),(9,vB false)],[(0,⟨0,0,false,[.own 124 (es.take i++(mksStep k rest).map StepO)]⟩)],2⟩)
 | [],i,es,k,hl,hi,h,hf,h0,h1=>by
  have e:i=n:=by simpa using hi
  subst e
  have hlt:ltI (i:Int) (i:Int)=false:=ltI_f (by omega)
  have ht:es.take i=es:=List.take_of_length_le (by omega)
  rw [loop_eq]
  simp +contextual -dsimp [Tryz.f24,hlt,ht,ctsStep_nil,mksStep]
 | x::rest,i,es,k,hl,hi,h,hf,h0,h1=>by
  have hx:=hf x (by simp)
  simp only [List.length_cons] at hi
  have hin:i < n:=by omega
  have hi2:i < es.length:=by omega
  have hlt:ltI (i:Int) (n:Int)=true:=ltI_t (by omega)
  have hw:IntKind.i64.wrap ((i:Int)+1)=((i+1:Nat):Int):=by rw [wrapI] <;> omega
  have hd:=List.drop_eq_getElem_cons hi2
  rw [h,List.map_cons,List.cons.injEq] at hd
  obtain ⟨hz1,hr⟩:=hd
  have hz1:=hz1.symm
  rw [ctsStep_cons] at h1
  simp only [ctStep] at h1
  obtain ⟨k1,e1⟩:∃ z,z=k+1:=⟨_,rfl⟩
  have w0:IntKind.i64.wrap (k+1)=k1:=by rw [e1,wrapI] <;> omega
  obtain ⟨k2,e2⟩:∃ z,z=k1+1:=⟨_,rfl⟩
  have w1:IntKind.i64.wrap (k1+1)=k2:=by rw [e2,wrapI] <;> omega
  obtain ⟨k3,e3⟩:∃ z,z=k2+1:=⟨_,rfl⟩
  have w2:IntKind.i64.wrap (k2+1)=k3:=by rw [e3,wrapI] <;> omega
  have g2:=o_markText k2 (by omega) (by omega)
  obtain ⟨k4,e4⟩:∃ z,z=k3+1:=⟨_,rfl⟩
  have w3:IntKind.i64.wrap (k3+1)=k4:=by rw [e4,wrapI] <;> omega
  obtain ⟨k5,e5⟩:∃ z,z=k4+(ctsNode x.cond:Nat):=⟨_,rfl⟩
  obtain ⟨b4,g4⟩:=o_markNodeS x.cond k4 (by omega) (by omega) (by simp only [wStep] at hx; omega)
  rw [← e5] at g4
  obtain ⟨k6,e6⟩:∃ z,z=k5+(ctsNode x.expr:Nat):=⟨_,rfl⟩
  obtain ⟨b5,g5⟩:=o_markNodeS x.expr k5 (by omega) (by omega) (by simp only [wStep] at hx; omega)
  rw [← e6] at g5
  have hk:k6+(ctsStep rest:Nat)=k+(ctsStep (x::rest):Nat):=by rw [ctsStep_cons]; simp only [ctStep]; omega
  have hm:mksStep k (x::rest)=({ kind:=k,parent:=k1,name:=mkTx k2,arg:=k3,cond:=mksNode k4 x.cond,expr:=mksNode k5 x.expr }:Step)::mksStep k6 rest:=by
   have e:k6=k+(ctStep x:Nat):=by simp only [ctStep]; omega
   have e2:mkStep k x=({ kind:=k,parent:=k1,name:=mkTx k2,arg:=k3,cond:=mksNode k4 x.cond,expr:=mksNode k5 x.expr }:Step):=by subst_vars; rfl
   simp only [mksStep]; rw [e2,e]
  have ih:=lmkStepS n hn rest (i+1) (es.set i (StepO ({ kind:=k,parent:=k1,name:=mkTx k2,arg:=k3,cond:=mksNode k4 x.cond,expr:=mksNode k5 x.expr }:Step))) k6 (by simpa using hl) (by omega) (by rw [List.drop_set_of_lt (by omega)]; exact hr.symm) (fun y hy=>hf y (by simp [hy])) (by omega) (by omega)
  have hes:(es.set i (StepO ({ kind:=k,parent:=k1,name:=mkTx k2,arg:=k3,cond:=mksNode k4 x.cond,expr:=mksNode k5 x.expr }:Step))).take (i+1)=es.take i++[StepO ({ kind:=k,parent:=k1,name:=mkTx k2,arg:=k3,cond:=mksNode k4 x.cond,expr:=mksNode k5 x.expr }:Step)]:=by
   rw [List.take_add_one,List.take_set_of_le (Nat.le_refl _)]
   simp [hi2]
  rw [hk,hes,List.append_assoc] at ih
  rw [hm]
  refine evLoop_next ?_ (by simpa only [List.length_cons,List.map_cons,List.singleton_append] using ih)
  simp (maxSteps:=1000000) +contextual -dsimp [Tryz.f24,hlt,hi2,hin,hw,hz1,hl,w0,w1,w2,g2,w3,g4,g5,lendEff,lendOne,lendMany,firstRef,lendRow,lendCell,putRow,putBack,valArg,List.set]
set_option maxHeartbeats 4000000 in
theorem o_markStepS (l:List Step) (k:Int) (h0:0≤k) (h1:k+(ctsStep l:Nat) < 2 ^ 60) (hn:l.length≤2097152) (hf:∀ x,x∈l→wStep x≤2097152):∃ b,fo 24 [⟨.ref 0 0 [] 0 l.length,some ⟨0,0,false,[.own 124 (l.map StepO)]⟩⟩,A (vI k)]=some ⟨vI (k+(ctsStep l:Nat)),[(0,[.own 124 ((mksStep k l).map StepO)])],b⟩:=by
 have hlp:=lmkStepS l.length hn l 0 (l.map StepO) k (by simp) (by simp) rfl hf h0 (by omega)
 have hcl:=oclean_Step (mksStep k l)
 refine ⟨true,orc_24 (l.length+1) ?_⟩
 generalize k+(ctsStep l:Nat)=k' at *
 generalize mksStep k l=l' at *
 simp -dsimp [Tryz.f24] at hlp
 simp (maxSteps:=1000000) +contextual -dsimp [Tryz.f24,hlp,hcl,finishL,mergeL,List.set]
set_option maxHeartbeats 4000000 in
theorem lmkProcS (n:Nat) (hn:n≤2097152):∀ (rest:List (List Step)) (i:Nat) (es:List (List T)) (k:Int),es.length=n→i+rest.length=n→es.drop i=rest.map ProcO→(∀ x,x∈rest→wProc x≤2097152)→0≤k→k+(ctsProc rest:Nat) < 2 ^ 60→
  evLoop E (orc E) (119:Nat) (rest.length+1) (loopOf Tryz.f119 0) ⟨20,[(0,.ref 0 0 [] 0 n),(1,vI k),(5,vI i)],[(0,⟨0,0,false,[.own 160 es]⟩)],2⟩=
  some (.exit 0,⟨20,[(0,.ref 0 0 [] 0 n),(1,vI (k+(ctsProc rest:Nat))),(5,vI (n:Nat)),(9,vB false)],[(0,⟨0,0,false,[.own 160 (es.take i++(mksProc k rest).map ProcO)]⟩)],2⟩)
 | [],i,es,k,hl,hi,h,hf,h0,h1=>by
  have e:i=n:=by simpa using hi
  subst e
  have hlt:ltI (i:Int) (i:Int)=false:=ltI_f (by omega)
  have ht:es.take i=es:=List.take_of_length_le (by omega)
  rw [loop_eq]
  simp +contextual -dsimp [Tryz.f119,hlt,ht,ctsProc_nil,mksProc]
 | x::rest,i,es,k,hl,hi,h,hf,h0,h1=>by
  have hx:=hf x (by simp)
  simp only [List.length_cons] at hi
  have hin:i < n:=by omega
  have hi2:i < es.length:=by omega
  have hlt:ltI (i:Int) (n:Int)=true:=ltI_t (by omega)
  have hw:IntKind.i64.wrap ((i:Int)+1)=((i+1:Nat):Int):=by rw [wrapI] <;> omega
  have hd:=List.drop_eq_getElem_cons hi2
  rw [h,List.map_cons,List.cons.injEq] at hd
  obtain ⟨hz1,hr⟩:=hd
  have hz1:=hz1.symm
  rw [ctsProc_cons] at h1
  simp only [ctProc] at h1
  obtain ⟨k1,e1⟩:∃ z,z=k+(ctsStep x:Nat):=⟨_,rfl⟩
  obtain ⟨b0,g0⟩:=o_markStepS x k (by omega) (by omega) (by simp only [wProc,wsStep] at hx; omega) (fun y hy=>by have:=sumStep_mem hy; simp only [wProc,wsStep] at hx; omega)
  rw [← e1] at g0
  have hk:k1+(ctsProc rest:Nat)=k+(ctsProc (x::rest):Nat):=by rw [ctsProc_cons]; simp only [ctProc]; omega
  have hm:mksProc k (x::rest)=(mksStep k x:List Step)::mksProc k1 rest:=by
   have e:k1=k+(ctProc x:Nat):=by simp only [ctProc]; omega
   have e2:mkProc k x=(mksStep k x:List Step):=by subst_vars; rfl
   simp only [mksProc]; rw [e2,e]
  have ih:=lmkProcS n hn rest (i+1) (es.set i (ProcO (mksStep k x:List Step))) k1 (by simpa using hl) (by omega) (by rw [List.drop_set_of_lt (by omega)]; exact hr.symm) (fun y hy=>hf y (by simp [hy])) (by omega) (by omega)
  have hes:(es.set i (ProcO (mksStep k x:List Step))).take (i+1)=es.take i++[ProcO (mksStep k x:List Step)]:=by
   rw [List.take_add_one,List.take_set_of_le (Nat.le_refl _)]
   simp [hi2]
  rw [hk,hes,List.append_assoc] at ih
  rw [hm]
  refine evLoop_next ?_ (by simpa only [List.length_cons,List.map_cons,List.singleton_append] using ih)
  simp (maxSteps:=1000000) +contextual -dsimp [Tryz.f119,hlt,hi2,hin,hw,hz1,hl,g0,lendEff,lendOne,lendMany,firstRef,lendRow,lendCell,putRow,putBack,valArg,List.set]
set_option maxHeartbeats 4000000 in
theorem o_markProcS (l:List (List Step)) (k:Int) (h0:0≤k) (h1:k+(ctsProc l:Nat) < 2 ^ 60) (hn:l.length≤2097152) (hf:∀ x,x∈l→wProc x≤2097152):∃ b,fo 119 [⟨.ref 0 0 [] 0 l.length,some ⟨0,0,false,[.own 160 (l.map ProcO)]⟩⟩,A (vI k)]=some ⟨vI (k+(ctsProc l:Nat)),[(0,[.own 160 ((mksProc k l).map ProcO)])],b⟩:=by
 have hlp:=lmkProcS l.length hn l 0 (l.map ProcO) k (by simp) (by simp) rfl hf h0 (by omega)
 have hcl:=oclean_Proc (mksProc k l)
 refine ⟨true,orc_119 (l.length+1) ?_⟩
 generalize k+(ctsProc l:Nat)=k' at *
 generalize mksProc k l=l' at *
 simp -dsimp [Tryz.f119] at hlp
 simp (maxSteps:=1000000) +contextual -dsimp [Tryz.f119,hlp,hcl,finishL,mergeL,List.set]
set_option maxHeartbeats 4000000 in
theorem lmkInstS (n:Nat) (hn:n≤2097152):∀ (rest:List Inst) (i:Nat) (es:List (List T)) (k:Int),es.length=n→i+rest.length=n→es.drop i=rest.map InstO→(∀ x,x∈rest→wInst x≤2097152)→0≤k→k+(ctsInst rest:Nat) < 2 ^ 60→
  evLoop E (orc E) (120:Nat) (rest.length+1) (loopOf Tryz.f120 0) ⟨60,[(0,.ref 0 0 [] 0 n),(1,vI k),(5,vI i)],[(0,⟨0,0,false,[.own 163 es]⟩)],2⟩=
  some (.exit 0,⟨60,[(0,.ref 0 0 [] 0 n),(1,vI (k+(ctsInst rest:Nat))),(5,vI (n:Nat)),(9,vB false)],[(0,⟨0,0,false,[.own 163 (es.take i++(mksInst k rest).map InstO)]⟩)],2⟩)
 | [],i,es,k,hl,hi,h,hf,h0,h1=>by
  have e:i=n:=by simpa using hi
  subst e
  have hlt:ltI (i:Int) (i:Int)=false:=ltI_f (by omega)
  have ht:es.take i=es:=List.take_of_length_le (by omega)
  rw [loop_eq]
  simp +contextual -dsimp [Tryz.f120,hlt,ht,ctsInst_nil,mksInst]
 | x::rest,i,es,k,hl,hi,h,hf,h0,h1=>by
  have hx:=hf x (by simp)
  simp only [List.length_cons] at hi
  have hin:i < n:=by omega
  have hi2:i < es.length:=by omega
  have hlt:ltI (i:Int) (n:Int)=true:=ltI_t (by omega)
  have hw:IntKind.i64.wrap ((i:Int)+1)=((i+1:Nat):Int):=by rw [wrapI] <;> omega
  have hd:=List.drop_eq_getElem_cons hi2
  rw [h,List.map_cons,List.cons.injEq] at hd
  obtain ⟨hz1,hr⟩:=hd
  have hz1:=hz1.symm
  rw [ctsInst_cons] at h1
  simp only [ctInst] at h1
  obtain ⟨k1,e1⟩:∃ z,z=k+1:=⟨_,rfl⟩
  have w0:IntKind.i64.wrap (k+1)=k1:=by rw [e1,wrapI] <;> omega
  obtain ⟨k2,e2⟩:∃ z,z=k1+1:=⟨_,rfl⟩
  have w1:IntKind.i64.wrap (k1+1)=k2:=by rw [e2,wrapI] <;> omega
  obtain ⟨k3,e3⟩:∃ z,z=k2+1:=⟨_,rfl⟩
  have w2:IntKind.i64.wrap (k2+1)=k3:=by rw [e3,wrapI] <;> omega
  obtain ⟨k4,e4⟩:∃ z,z=k3+(ctsint x.chart.vars:Nat):=⟨_,rfl⟩
  obtain ⟨b3,g3⟩:=o_markInt64S x.chart.vars k3 (by omega) (by omega) (by simp only [wInst,wChart] at hx; omega)
  rw [← e4] at g3
  obtain ⟨k5,e5⟩:∃ z,z=k4+(ctsint x.chart.acts:Nat):=⟨_,rfl⟩
  obtain ⟨b4,g4⟩:=o_markInt64S x.chart.acts k4 (by omega) (by omega) (by simp only [wInst,wChart] at hx; omega)
  rw [← e5] at g4
  obtain ⟨k6,e6⟩:∃ z,z=k5+(ctsint x.chart.dues:Nat):=⟨_,rfl⟩
  obtain ⟨b5,g5⟩:=o_markInt64S x.chart.dues k5 (by omega) (by omega) (by simp only [wInst,wChart] at hx; omega)
  rw [← e6] at g5
  have hk:k6+(ctsInst rest:Nat)=k+(ctsInst (x::rest):Nat):=by rw [ctsInst_cons]; simp only [ctInst]; omega
  have hm:mksInst k (x::rest)=({ proc:=k,chart:={ status:=k1,now:=k2,vars:=mksint k3 x.chart.vars,acts:=mksint k4 x.chart.acts,dues:=mksint k5 x.chart.dues } }:Inst)::mksInst k6 rest:=by
   have e:k6=k+(ctInst x:Nat):=by simp only [ctInst]; omega
   have e2:mkInst k x=({ proc:=k,chart:={ status:=k1,now:=k2,vars:=mksint k3 x.chart.vars,acts:=mksint k4 x.chart.acts,dues:=mksint k5 x.chart.dues } }:Inst):=by subst_vars; rfl
   simp only [mksInst]; rw [e2,e]
  have ih:=lmkInstS n hn rest (i+1) (es.set i (InstO ({ proc:=k,chart:={ status:=k1,now:=k2,vars:=mksint k3 x.chart.vars,acts:=mksint k4 x.chart.acts,dues:=mksint k5 x.chart.dues } }:Inst))) k6 (by simpa using hl) (by omega) (by rw [List.drop_set_of_lt (by omega)]; exact hr.symm) (fun y hy=>hf y (by simp [hy])) (by omega) (by omega)
  have hes:(es.set i (InstO ({ proc:=k,chart:={ status:=k1,now:=k2,vars:=mksint k3 x.chart.vars,acts:=mksint k4 x.chart.acts,dues:=mksint k5 x.chart.dues } }:Inst))).take (i+1)=es.take i++[InstO ({ proc:=k,chart:={ status:=k1,now:=k2,vars:=mksint k3 x.chart.vars,acts:=mksint k4 x.chart.acts,dues:=mksint k5 x.chart.dues } }:Inst)]:=by
   rw [List.take_add_one,List.take_set_of_le (Nat.le_refl _)]
   simp [hi2]
  rw [hk,hes,List.append_assoc] at ih
  rw [hm]
  refine evLoop_next ?_ (by simpa only [List.length_cons,List.map_cons,List.singleton_append] using ih)
  simp (maxSteps:=1000000) +contextual -dsimp [Tryz.f120,hlt,hi2,hin,hw,hz1,hl,w0,w1,w2,g3,g4,g5,lendEff,lendOne,lendMany,firstRef,lendRow,lendCell,putRow,putBack,valArg,List.set]
set_option maxHeartbeats 4000000 in
theorem o_markInstS (l:List Inst) (k:Int) (h0:0≤k) (h1:k+(ctsInst l:Nat) < 2 ^ 60) (hn:l.length≤2097152) (hf:∀ x,x∈l→wInst x≤2097152):∃ b,fo 120 [⟨.ref 0 0 [] 0 l.length,some ⟨0,0,false,[.own 163 (l.map InstO)]⟩⟩,A (vI k)]=some ⟨vI (k+(ctsInst l:Nat)),[(0,[.own 163 ((mksInst k l).map InstO)])],b⟩:=by
 have hlp:=lmkInstS l.length hn l 0 (l.map InstO) k (by simp) (by simp) rfl hf h0 (by omega)
 have hcl:=oclean_Inst (mksInst k l)
 refine ⟨true,orc_120 (l.length+1) ?_⟩
 generalize k+(ctsInst l:Nat)=k' at *
 generalize mksInst k l=l' at *
 simp -dsimp [Tryz.f120] at hlp
 simp (maxSteps:=1000000) +contextual -dsimp [Tryz.f120,hlp,hcl,finishL,mergeL,List.set]
set_option maxHeartbeats 4000000 in
theorem lmkClaimS (n:Nat) (hn:n≤2097152):∀ (rest:List Claim) (i:Nat) (es:List (List T)) (k:Int),es.length=n→i+rest.length=n→es.drop i=rest.map kT→0≤k→k+(ctsClaim rest:Nat) < 2 ^ 60→
  evLoop E (orc E) (103:Nat) (rest.length+1) (loopOf Tryz.f103 0) ⟨34,[(0,.ref 0 0 [] 0 n),(1,vI k),(5,vI i)],[(0,⟨0,0,false,[.own 150 es]⟩)],2⟩=
  some (.exit 0,⟨34,[(0,.ref 0 0 [] 0 n),(1,vI (k+(ctsClaim rest:Nat))),(5,vI (n:Nat)),(9,vB false)],[(0,⟨0,0,false,[.own 150 (es.take i++(mksClaim k rest).map kT)]⟩)],2⟩)
 | [],i,es,k,hl,hi,h,h0,h1=>by
  have e:i=n:=by simpa using hi
  subst e
  have hlt:ltI (i:Int) (i:Int)=false:=ltI_f (by omega)
  have ht:es.take i=es:=List.take_of_length_le (by omega)
  rw [loop_eq]
  simp +contextual -dsimp [Tryz.f103,hlt,ht,ctsClaim_nil,mksClaim]
 | x::rest,i,es,k,hl,hi,h,h0,h1=>by
  simp only [List.length_cons] at hi
  have hin:i < n:=by omega
  have hi2:i < es.length:=by omega
  have hlt:ltI (i:Int) (n:Int)=true:=ltI_t (by omega)
  have hw:IntKind.i64.wrap ((i:Int)+1)=((i+1:Nat):Int):=by rw [wrapI] <;> omega
  have hd:=List.drop_eq_getElem_cons hi2
  rw [h,List.map_cons,List.cons.injEq] at hd
  obtain ⟨hz1,hr⟩:=hd
  have hz1:=hz1.symm
  rw [ctsClaim_cons] at h1
  simp only [ctClaim] at h1
  obtain ⟨k1,e1⟩:∃ z,z=k+1:=⟨_,rfl⟩
  have w0:IntKind.i64.wrap (k+1)=k1:=by rw [e1,wrapI] <;> omega
  obtain ⟨k2,e2⟩:∃ z,z=k1+1:=⟨_,rfl⟩
  have w1:IntKind.i64.wrap (k1+1)=k2:=by rw [e2,wrapI] <;> omega
  obtain ⟨k3,e3⟩:∃ z,z=k2+1:=⟨_,rfl⟩
  have w2:IntKind.i64.wrap (k2+1)=k3:=by rw [e3,wrapI] <;> omega
  have hk:k3+(ctsClaim rest:Nat)=k+(ctsClaim (x::rest):Nat):=by rw [ctsClaim_cons]; simp only [ctClaim]; omega
  have hm:mksClaim k (x::rest)=({ inst:=k,step:=k1,user:=k2 }:Claim)::mksClaim k3 rest:=by
   have e:k3=k+(ctClaim x:Nat):=by simp only [ctClaim]; omega
   have e2:mkClaim k x=({ inst:=k,step:=k1,user:=k2 }:Claim):=by subst_vars; rfl
   simp only [mksClaim]; rw [e2,e]
  have ih:=lmkClaimS n hn rest (i+1) (es.set i (kT ({ inst:=k,step:=k1,user:=k2 }:Claim))) k3 (by simpa using hl) (by omega) (by rw [List.drop_set_of_lt (by omega)]; exact hr.symm) (by omega) (by omega)
  have hes:(es.set i (kT ({ inst:=k,step:=k1,user:=k2 }:Claim))).take (i+1)=es.take i++[kT ({ inst:=k,step:=k1,user:=k2 }:Claim)]:=by
   rw [List.take_add_one,List.take_set_of_le (Nat.le_refl _)]
   simp [hi2]
  rw [hk,hes,List.append_assoc] at ih
  rw [hm]
  refine evLoop_next ?_ (by simpa only [List.length_cons,List.map_cons,List.singleton_append] using ih)
  simp (maxSteps:=1000000) +contextual -dsimp [Tryz.f103,hlt,hi2,hin,hw,hz1,hl,w0,w1,w2,lendEff,lendOne,lendMany,firstRef,lendRow,lendCell,putRow,putBack,valArg,List.set]
set_option maxHeartbeats 4000000 in
theorem o_markClaimS (l:List Claim) (k:Int) (h0:0≤k) (h1:k+(ctsClaim l:Nat) < 2 ^ 60) (hn:l.length≤2097152):∃ b,fo 103 [⟨.ref 0 0 [] 0 l.length,some ⟨0,0,false,[.own 150 (l.map kT)]⟩⟩,A (vI k)]=some ⟨vI (k+(ctsClaim l:Nat)),[(0,[.own 150 ((mksClaim k l).map kT)])],b⟩:=by
 have hlp:=lmkClaimS l.length hn l 0 (l.map kT) k (by simp) (by simp) rfl h0 (by omega)
 have hcl:=oclean_Claim (mksClaim k l)
 refine ⟨true,orc_103 (l.length+1) ?_⟩
 generalize k+(ctsClaim l:Nat)=k' at *
 generalize mksClaim k l=l' at *
 simp -dsimp [Tryz.f103] at hlp
 simp (maxSteps:=1000000) +contextual -dsimp [Tryz.f103,hlp,hcl,finishL,mergeL,List.set]
end Go.TM.Ft
