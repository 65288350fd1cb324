/- What functions of the program come to, by the machine. -/
import Derived.Test.YtlmiemdojgahaaaGreatPL12
import Derived.Test.YtlmiemdojgahaaaGreatPL1
set_option linter.unusedSimpArgs false
set_option linter.unusedVariables false
namespace Go.TM.Ft
open Go Go.TM Go.Proofs
set_option maxRecDepth 20000
attribute [local congr] gif_cg
attribute [local simp] footOf noClash clash upsets setsHit setHits layHits layMeets setsMeet evFeet
theorem leqintS (all:List Int) (hall:all.length≤2097152):∀ (rest:List Int) (i:Nat),all.drop i=rest→
  evLoop E (orc E) (22:Nat) (rest.length+1) (loopOf Tryz.f22 0) ⟨26,[(0,.sl 2 (all.map iV)),(1,.sl 2 (all.map iV)),(5,vI i)],[],2⟩=
  some (.exit 0,⟨26,[(0,.sl 2 (all.map iV)),(1,.sl 2 (all.map iV)),(5,vI (i+rest.length:Nat)),(14,vB false)],[],2⟩)
 | [],i,h=>by
  have hge:all.length≤i:=by simpa using h
  have hlt:ltI (i:Int) (all.length:Int)=false:=ltI_f (by omega)
  rw [loop_eq]
  simp +contextual -dsimp [Tryz.f22,hlt]
 | x::rest,i,h=>by
  obtain ⟨hi,hc,hr⟩:=drop_cons h
  have hlt:ltI (i:Int) (all.length:Int)=true:=ltI_t (by omega)
  have hw:IntKind.i64.wrap ((i:Int)+1)=((i+1:Nat):Int):=by rw [wrapI] <;> omega
  have ih:=leqintS all hall rest (i+1) hr
  have he:i+1+rest.length=i+(rest.length+1):=by omega
  rw [he] at ih
  refine evLoop_next ?_ (by simpa only [List.length_cons] using ih)
  simp (maxSteps:=1000000) +contextual -dsimp [Tryz.f22,hlt,hi,hc,hw,eqI_self]
theorem g_eqintS (l:List Int) (hl:l.length≤2097152):fo 22 [A (.sl 2 (l.map iV)),A (.sl 2 (l.map iV))]=some (R (vB true)):=by
 have hlp:=leqintS l hl l 0 rfl
 refine orc_22 (l.length+1) ?_
 simp -dsimp [Tryz.f22] at hlp
 simp (maxSteps:=1000000) +contextual -dsimp [Tryz.f22,hlp,eqI_self]
theorem g_eqNode (x:Node):fo 240 [A (.agg (nT x)),A (.agg (nT x))]=some (R (vB true)):=by
 refine orc_240 1 ?_
 simp (maxSteps:=1000000) +contextual -dsimp [Tryz.f240,eqI_self]
theorem leqNodeS (all:List Node) (hall:all.length≤2097152):∀ (rest:List Node) (i:Nat),all.drop i=rest→
  evLoop E (orc E) (173:Nat) (rest.length+1) (loopOf Tryz.f173 0) ⟨27,[(0,.sl 219 (all.map nT)),(1,.sl 219 (all.map nT)),(5,vI i)],[],2⟩=
  some (.exit 0,⟨27,[(0,.sl 219 (all.map nT)),(1,.sl 219 (all.map nT)),(5,vI (i+rest.length:Nat)),(14,vB false)],[],2⟩)
 | [],i,h=>by
  have hge:all.length≤i:=by simpa using h
  have hlt:ltI (i:Int) (all.length:Int)=false:=ltI_f (by omega)
  rw [loop_eq]
  simp +contextual -dsimp [Tryz.f173,hlt]
 | x::rest,i,h=>by
  obtain ⟨hi,hc,hr⟩:=drop_cons h
  have hlt:ltI (i:Int) (all.length:Int)=true:=ltI_t (by omega)
  have hw:IntKind.i64.wrap ((i:Int)+1)=((i+1:Nat):Int):=by rw [wrapI] <;> omega
  have ih:=leqNodeS all hall rest (i+1) hr
  have he:i+1+rest.length=i+(rest.length+1):=by omega
  rw [he] at ih
  have g:=g_eqNode x
  refine evLoop_next ?_ (by simpa only [List.length_cons] using ih)
  simp (maxSteps:=1000000) +contextual -dsimp [Tryz.f173,hlt,hi,hc,hw,g]
theorem g_eqNodeS (l:List Node) (hl:l.length≤2097152):fo 173 [A (.sl 219 (l.map nT)),A (.sl 219 (l.map nT))]=some (R (vB true)):=by
 have hlp:=leqNodeS l hl l 0 rfl
 refine orc_173 (l.length+1) ?_
 simp -dsimp [Tryz.f173] at hlp
 simp (maxSteps:=1000000) +contextual -dsimp [Tryz.f173,hlp,eqI_self]
theorem g_eqStep (x:Step) (h:wStep x≤2097152):fo 83 [A (.agg (sT 219 x)),A (.agg (sT 219 x))]=some (R (vB true)):=by
 have g4:=g_eqNodeS x.cond (by simp only [wStep] at h; omega)
 have g5:=g_eqNodeS x.expr (by simp only [wStep] at h; omega)
 refine orc_83 1 ?_
 simp (maxSteps:=1000000) +contextual -dsimp [Tryz.f83,eqI_self,eqS_self,g4,g5]
theorem leqStepS (all:List Step) (hall:all.length≤2097152) (hf:∀ x,x∈all→wStep x≤2097152):∀ (rest:List Step) (i:Nat),all.drop i=rest→
  evLoop E (orc E) (21:Nat) (rest.length+1) (loopOf Tryz.f21 0) ⟨27,[(0,.sl 124 (all.map (sT 219))),(1,.sl 124 (all.map (sT 219))),(5,vI i)],[],2⟩=
  some (.exit 0,⟨27,[(0,.sl 124 (all.map (sT 219))),(1,.sl 124 (all.map (sT 219))),(5,vI (i+rest.length:Nat)),(14,vB false)],[],2⟩)
 | [],i,h=>by
  have hge:all.length≤i:=by simpa using h
  have hlt:ltI (i:Int) (all.length:Int)=false:=ltI_f (by omega)
  rw [loop_eq]
  simp +contextual -dsimp [Tryz.f21,hlt]
 | x::rest,i,h=>by
  obtain ⟨hi,hc,hr⟩:=drop_cons h
  have hlt:ltI (i:Int) (all.length:Int)=true:=ltI_t (by omega)
  have hw:IntKind.i64.wrap ((i:Int)+1)=((i+1:Nat):Int):=by rw [wrapI] <;> omega
  have ih:=leqStepS all hall hf rest (i+1) hr
  have he:i+1+rest.length=i+(rest.length+1):=by omega
  rw [he] at ih
  have g:=g_eqStep x (hf x (by rw [← hc]; exact List.getElem_mem _))
  refine evLoop_next ?_ (by simpa only [List.length_cons] using ih)
  simp (maxSteps:=1000000) +contextual -dsimp [Tryz.f21,hlt,hi,hc,hw,g]
theorem g_eqStepS (l:List Step) (hl:l.length≤2097152) (hf:∀ x,x∈l→wStep x≤2097152):fo 21 [A (.sl 124 (l.map (sT 219))),A (.sl 124 (l.map (sT 219)))]=some (R (vB true)):=by
 have hlp:=leqStepS l hl hf l 0 rfl
 refine orc_21 (l.length+1) ?_
 simp -dsimp [Tryz.f21] at hlp
 simp (maxSteps:=1000000) +contextual -dsimp [Tryz.f21,hlp,eqI_self]
theorem g_eqChart (x:Chart) (h:wChart x≤2097152):fo 82 [A (.agg (cT x)),A (.agg (cT x))]=some (R (vB true)):=by
 have g2:=g_eqintS x.vars (by simp only [wChart] at h; omega)
 have g3:=g_eqintS x.acts (by simp only [wChart] at h; omega)
 have g4:=g_eqintS x.dues (by simp only [wChart] at h; omega)
 refine orc_82 1 ?_
 simp (maxSteps:=1000000) +contextual -dsimp [Tryz.f82,eqI_self,g2,g3,g4]
end Go.TM.Ft
namespace Go.TM.Ft
open Go Go.TM Go.Proofs
set_option maxRecDepth 20000
attribute [local congr] gif_cg
attribute [local simp] footOf noClash clash upsets setsHit setHits layHits layMeets setsMeet evFeet
theorem osealed_int (l:List Int):sealEs (l.map iV)=l.map iV:=sealEs_map (f:=iV) (g:=iV) (fun a=>by simp [sealL,seal_]) l
theorem oclean_int (l:List Int):cleanEs (l.map iV)=true:=by
 induction l with
 | nil=>rfl
 | cons x l ih=>simp only [List.map_cons,cleanEs,ih,Bool.and_true]; simp [cleanL,clean]
theorem osealed_Node (l:List Node):sealEs (l.map nT)=l.map nT:=sealEs_map (f:=nT) (g:=nT) (fun a=>by simp [sealL,seal_]) l
theorem oclean_Node (l:List Node):cleanEs (l.map nT)=true:=by
 induction l with
 | nil=>rfl
 | cons x l ih=>simp only [List.map_cons,cleanEs,ih,Bool.and_true]; simp [cleanL,clean]
abbrev StepO (x:Step):List T:=[vI x.kind,vI x.parent,vS x.name,vI x.arg,.own 219 (x.cond.map nT),.own 219 (x.expr.map nT)]
theorem osealed_Step (l:List Step):sealEs (l.map StepO)=l.map (sT 219):=sealEs_map (f:=StepO) (g:=(sT 219)) (fun a=>by simp [sealL,seal_,osealed_Node]) l
theorem oclean_Step (l:List Step):cleanEs (l.map StepO)=true:=by
 induction l with
 | nil=>rfl
 | cons x l ih=>simp only [List.map_cons,cleanEs,ih,Bool.and_true]; simp [cleanL,clean,oclean_Node]
abbrev ChartO (x:Chart):List T:=[vI x.status,vI x.now,.own 2 (x.vars.map iV),.own 2 (x.acts.map iV),.own 2 (x.dues.map iV)]
abbrev ActO (x:Act):List T:=[vI x.kind,vI x.at_,.own 2 (x.vars.map iV)]
theorem osealed_Act (l:List Act):sealEs (l.map ActO)=l.map aT:=sealEs_map (f:=ActO) (g:=aT) (fun a=>by simp [sealL,seal_,osealed_int]) l
theorem oclean_Act (l:List Act):cleanEs (l.map ActO)=true:=by
 induction l with
 | nil=>rfl
 | cons x l ih=>simp only [List.map_cons,cleanEs,ih,Bool.and_true]; simp [cleanL,clean,oclean_int]
abbrev RunO (x:RunV):List T:=[vI x.status,vI x.now,.own 2 (x.vars.map iV),.own 2 (x.marks.map iV),.own 2 (x.dues.map iV)]
abbrev PlayResultO (x:PlayR):List T:=[vI x.code,.own 2 (x.codes.map iV),vI x.run.status,vI x.run.now,.own 2 (x.run.vars.map iV),.own 2 (x.run.marks.map iV),.own 2 (x.run.dues.map iV),vI x.chart.status,vI x.chart.now,.own 2 (x.chart.vars.map iV),.own 2 (x.chart.acts.map iV),.own 2 (x.chart.dues.map iV)]
end Go.TM.Ft
namespace Go.TM.Ft
open Go Go.TM Go.Proofs
section
variable (P:Program) (t:TypeId) (x y:Operand)
theorem pr_cvt (a:Int):pureRun Tryz.prog (convert 3 5 (.int .i64 a))=some (.int .u8 (IntKind.u8.wrap a)):=by kernel_rfl
theorem pr_u8:pureRun Tryz.prog (isU8Slice 88 9)=some true:=by kernel_rfl
end
end Go.TM.Ft
namespace Go.TM.Ft
open Go Go.TM Go.Proofs
set_option maxRecDepth 20000
attribute [local congr] gif_cg
attribute [local simp] footOf noClash clash upsets setsHit setHits layHits layMeets setsMeet evFeet
section
variable (P:Program) (t:TypeId) (x y:Operand)
theorem pr_rem10 (a:Int):pureRun P (do eqGuard .rem t x y (.int .i64 a) (.int .i64 10); binOp .rem t (.int .i64 a) (.int .i64 10))=some (.int .i64 (Int.tmod a 10)):=rfl
theorem pr_quo10 (a:Int):pureRun P (do eqGuard .quo t x y (.int .i64 a) (.int .i64 10); binOp .quo t (.int .i64 a) (.int .i64 10))=some (.int .i64 (IntKind.i64.wrap (Int.tdiv a 10))):=pr_quoX P t x y a 10 (by omega)
theorem pr_addS (a b:ByteArray) (h:a.size+b.size < 2 ^ 62):pureRun P (do eqGuard .add t x y (.string a) (.string b); binOp .add t (.string a) (.string b))=some (.string (a++b)):=by
 have e:¬ (((a.size+b.size:Nat):Int) > IntKind.i64.max):=by
  have:IntKind.i64.max=9223372036854775807:=rfl
  rw [this]; omega
 unfold binOp
 simp only [eqGuard,Op.stringOp,if_neg e]
 rfl
end
theorem lp85:∀ (f:Nat) (k:Int) (out:ByteArray),0≤k→k < 10 ^ f→k < 2 ^ 61→out.size+f≤100→
  ∃ s:ByteArray,s.size≤100∧evLoop E (orc E) (85:Nat) (f+1) (loopOf Tryz.f85 0) ⟨20,[(0,vI k),(3,vS out)],[],2⟩=some (.exit 0,⟨20,[(0,vI 0),(3,vS s),(7,vB false)],[],2⟩)
 | f,k,out,h0,h1,h2,h3=>by
  rcases Int.lt_or_eq_of_le h0 with hk | hk
  ·match f with
   | 0=>simp at h1; omega
   | f+1=>
    have hlt:ltI 0 k=true:=ltI_t hk
    have hm0:0≤k.tmod 10:=Int.tmod_nonneg _ h0
    have hm1:k.tmod 10 < 10:=Int.tmod_lt_of_pos _ (by omega)
    have w:IntKind.i64.wrap (48+k.tmod 10)=48+k.tmod 10:=by rw [wrapI] <;> omega
    have ed:k.tdiv 10=k / 10:=Int.tdiv_eq_ediv_of_nonneg h0
    have hd0:0≤k.tdiv 10:=by rw [ed]; omega
    have hd1:k.tdiv 10 < 10 ^ f:=by rw [ed]; rw [Int.pow_succ] at h1; omega
    have hd2:k.tdiv 10 < 2 ^ 61:=by rw [ed]; omega
    have w2:IntKind.i64.wrap (k.tdiv 10)=k.tdiv 10:=by rw [wrapI] <;> omega
    obtain ⟨b,w3⟩:∃ b,IntKind.u8.wrap (48+k.tmod 10)=b:=⟨_,rfl⟩
    have hs:(⟨#[UInt8.ofNat b.toNat]⟩:ByteArray).size=1:=rfl
    have hsz:((⟨#[UInt8.ofNat b.toNat]⟩:ByteArray)++out).size=1+out.size:=by rw [ByteArray.size_append,hs]
    obtain ⟨s,g1,g2⟩:=lp85 f (k.tdiv 10) (⟨#[UInt8.ofNat b.toNat]⟩++out) hd0 hd1 hd2 (by rw [hsz]; omega)
    have p1:=pr_rem10 Tryz.prog 3 (.tmp 8) (.const (.int .i64 10)) k
    have p2:=pr_quo10 Tryz.prog 3 (.tmp 16) (.const (.int .i64 10)) k
    have p3:=pr_addS Tryz.prog 9 (.tmp 13) (.tmp 14) ⟨#[UInt8.ofNat b.toNat]⟩ out (by rw [hs]; omega)
    refine ⟨s,g1,evLoop_next ?_ g2⟩
    generalize (⟨#[UInt8.ofNat b.toNat]⟩:ByteArray)++out=out' at *
    generalize k.tdiv 10=d at *
    simp (maxSteps:=1000000) +contextual -dsimp [Tryz.f85,hlt,p1,p2,p3,pr_cvt,pr_u8,w,w2,w3,bytesOfT,List.set]
  ·subst hk
   have hlt:ltI 0 0=false:=rfl
   refine ⟨out,by omega,evLoop_out ?_ (by simp)⟩
   simp (maxSteps:=1000000) +contextual -dsimp [Tryz.f85,hlt,List.set]
theorem markText_ex (k:Int) (h0:0≤k) (h1:k < 2 ^ 61):∃ s:ByteArray,fo 85 [A (vI k)]=some (R (vS s)):=by
 cases q:leI k 0
 ·obtain ⟨s,h2,h3⟩:=lp85 20 k ⟨#[]⟩ h0 (by omega) h1 (by show 0+20≤100; omega)
  have hs:(⟨#[109]⟩:ByteArray).size=1:=rfl
  have p3:=pr_addS Tryz.prog 9 (.const (.string ⟨#[109]⟩)) (.tmp 18) ⟨#[109]⟩ s (by rw [hs]; omega)
  refine ⟨⟨#[109]⟩++s,orc_85 21 ?_⟩
  simp -dsimp [Tryz.f85] at h3
  simp (maxSteps:=1000000) +contextual -dsimp [Tryz.f85,q,h3,p3,List.set]
 ·refine ⟨⟨#[109,48]⟩,orc_85 1 ?_⟩
  simp (maxSteps:=1000000) +contextual -dsimp [Tryz.f85,q,List.set]
open Classical in
noncomputable def mkTx (k:Int):ByteArray:=if h:∃ s:ByteArray,fo 85 [A (vI k)]=some (R (vS s)) then Classical.choose h else ⟨#[]⟩
theorem o_markText (k:Int) (h0:0≤k) (h1:k < 2 ^ 61):fo 85 [A (vI k)]=some (R (vS (mkTx k))):=by
 have h:=markText_ex k h0 h1
 unfold mkTx
 rw [dif_pos h]
 exact Classical.choose_spec h
end Go.TM.Ft
namespace Go.TM.Ft
open Go Go.TM Go.Proofs
set_option maxRecDepth 20000
attribute [local congr] gif_cg
attribute [local simp] footOf noClash clash upsets setsHit setHits layHits layMeets setsMeet evFeet
def wAct (x:Act):Nat:=x.vars.length
def FwAct (x:Act):Prop:=x.vars.length < 2 ^ 62
def sumAct:List Act→Nat
 | []=>0
 | x::r=>wAct x+sumAct r
def wsAct (l:List Act):Nat:=l.length+sumAct l
theorem sumAct_mem {x:Act}:∀ {l:List Act},x∈l→wAct x≤sumAct l
 | [],h=>by simp at h
 | y::l,h=>by
  unfold sumAct
  rcases List.mem_cons.1 h with rfl | h
  ·omega
  ·have:=sumAct_mem h; omega
def wRun (x:RunV):Nat:=x.vars.length+x.marks.length+x.dues.length
def wPlayResult (x:PlayR):Nat:=x.codes.length+wRun x.run+wChart x.chart
theorem g_szAct (x:Act) (left:Int) (h0:0≤left) (h1:left≤1048576) (hf:FwAct x):fo 69 [A (.agg (aT x)),A (vI left)]=some (R (vI (subM left (wAct x)))):=by
 unfold FwAct at hf
 refine orc_69 1 ?_
 have g0:=g_szintS x.vars (left) (by omega) (by omega) hf
 cases c0:ltI (subM (left) (x.vars.length)) 0
 ·obtain ⟨p0,e0⟩:=sub_f c0
  rw [e0] at g0 c0
  have hm:subM left (wAct x)=left - (x.vars.length:Nat):=by
   have:=subM_p (left:=left) (w:=wAct x) (by simp only [wAct]; omega)
   simp only [wAct] at this ⊢; omega
  rw [hm]
  simp (maxSteps:=1000000) +contextual -dsimp [Tryz.f69,g0,c0,List.set]
 ·have n0:=sub_t (by omega) c0
  have hm:subM left (wAct x)=-1:=subM_n (by simp only [wAct]; omega)
  rw [hm]
  simp (maxSteps:=1000000) +contextual -dsimp [Tryz.f69,g0,c0,List.set]
theorem lszActS (all:List Act) (hall:all.length≤1048576) (hf:∀ x,x∈all→FwAct x):∀ (rest:List Act) (i:Nat) (left:Int),all.drop i=rest→0≤left→left≤1048576→
  evLoop E (orc E) (14:Nat) (rest.length+1) (loopOf Tryz.f14 0) ⟨27,[(0,.sl 114 (all.map aT)),(1,vI left),(5,vI i)],[],2⟩=
  (if ltI (subM left (sumAct rest)) 0=true then some (.ret,⟨27,[(4,vI (-1))],[],2⟩) else some (.exit 0,⟨27,[(0,.sl 114 (all.map aT)),(1,vI (left - (sumAct rest:Nat))),(5,vI (i+rest.length:Nat)),(15,vB false)],[],2⟩))
 | [],i,left,h,h0,h1=>by
  have hge:all.length≤i:=by simpa using h
  have hlt:ltI (i:Int) (all.length:Int)=false:=ltI_f (by omega)
  have hz:subM left 0=left:=subM_z h0
  have hn:ltI left 0=false:=ltI_f (by omega)
  rw [loop_eq]
  simp +contextual -dsimp [Tryz.f14,hlt,sumAct,hz,hn]
 | x::rest,i,left,h,h0,h1=>by
  obtain ⟨hi,hc,hr⟩:=drop_cons h
  have hlt:ltI (i:Int) (all.length:Int)=true:=ltI_t (by omega)
  have hw:IntKind.i64.wrap ((i:Int)+1)=((i+1:Nat):Int):=by rw [wrapI] <;> omega
  have he:i+1+rest.length=i+(rest.length+1):=by omega
  have g:=g_szAct x left h0 h1 (hf x (by rw [← hc]; exact List.getElem_mem _))
  have ha:subM left (sumAct (x::rest))=subM (left - wAct x) (sumAct rest):=subM_add left (wAct x) (sumAct rest)
  have hb:left - ((sumAct (x::rest):Nat):Int)=left - wAct x - (sumAct rest:Nat):=by simp only [sumAct]; omega
  cases c:ltI (subM left (wAct x)) 0
  ·obtain ⟨p,e⟩:=sub_f c
   rw [e] at g c
   have ih:=lszActS all hall hf rest (i+1) (left - wAct x) hr (by omega) (by omega)
   rw [he] at ih
   rw [ha,hb]
   refine evLoop_next ?_ (by simpa only [List.length_cons] using ih)
   simp (maxSteps:=1000000) +contextual -dsimp [Tryz.f14,hlt,hi,hc,hw,g,c,List.set]
  ·have hn:=sub_t h0 c
   have hm:ltI (subM left (sumAct (x::rest))) 0=true:=by rw [subM_n (by simp only [sumAct]; omega)]; rfl
   rw [hm,if_pos rfl]
   refine evLoop_out ?_ (by simp)
   simp (maxSteps:=1000000) +contextual -dsimp [Tryz.f14,hlt,hi,hc,g,c,List.set]
theorem g_szActS (l:List Act) (left:Int) (h0:0≤left) (h1:left≤1048576) (hf:l.length < 2 ^ 62∧∀ y,y∈l→FwAct y):fo 14 [A (.sl 114 (l.map aT)),A (vI left)]=some (R (vI (subM left (wsAct l)))):=by
 have hl:=hf.1
 unfold wsAct
 have hw:IntKind.i64.wrap (left - l.length)=left - l.length:=by rw [wrapI] <;> omega
 refine orc_14 (l.length+1) ?_
 cases c1:ltI (left - l.length) 0
 ·have p:(l.length:Int)≤left:=by simp [ltI] at c1; omega
  have hlp:=lszActS l (by omega) hf.2 l 0 (left - l.length) rfl (by omega) (by omega)
  have ha:subM left (l.length+sumAct l)=subM (left - l.length) (sumAct l):=subM_add left l.length (sumAct l)
  rw [ha]
  simp -dsimp [Tryz.f14] at hlp
  cases c2:ltI (subM (left - l.length) (sumAct l)) 0
  ·obtain ⟨p2,e2⟩:=sub_f c2
   rw [c2] at hlp
   rw [e2]
   simp (maxSteps:=1000000) +contextual -dsimp [Tryz.f14,hw,c1,hlp,List.set]
  ·rw [c2] at hlp
   have e2:subM (left - l.length) (sumAct l)=-1:=subM_n (sub_t (by omega) c2)
   rw [e2]
   simp (maxSteps:=1000000) +contextual -dsimp [Tryz.f14,hw,c1,hlp,List.set]
 ·have hm:subM left (l.length+sumAct l)=-1:=subM_n (by simp [ltI] at c1; omega)
  rw [hm]
  simp (maxSteps:=1000000) +contextual -dsimp [Tryz.f14,hw,c1,List.set]
end Go.TM.Ft
namespace Go.TM.Ft
open Go Go.TM Go.Proofs
set_option maxRecDepth 20000
attribute [local congr] gif_cg
attribute [local simp] footOf noClash clash upsets setsHit setHits layHits layMeets setsMeet evFeet
noncomputable section
def mksint:Int→List Int→List Int
 | _,[]=>[]
 | k,_::r=>k::mksint (k+1) r
def ctsint (l:List Int):Nat:=l.length
theorem ctsint_nil:ctsint []=0:=rfl
theorem ctsint_cons (x:Int) (r:List Int):ctsint (x::r)=1+ctsint r:=by simp only [ctsint,List.length_cons]; omega
def ctNode (x:Node):Nat:=1+1+1+1
def ctsNode:List Node→Nat
 | []=>0
 | x::r=>ctNode x+ctsNode r
theorem ctsNode_nil:ctsNode []=0:=rfl
theorem ctsNode_cons (x:Node) (r:List Node):ctsNode (x::r)=ctNode x+ctsNode r:=rfl
def mkNode (k:Int) (x:Node):Node:={ kind:=k,value:=k+1,left:=k+1+1,right:=k+1+1+1 }
def mksNode:Int→List Node→List Node
 | _,[]=>[]
 | k,x::r=>mkNode k x::mksNode (k+(ctNode x:Nat)) r
def ctStep (x:Step):Nat:=1+1+1+1+ctsNode x.cond+ctsNode x.expr
def ctsStep:List Step→Nat
 | []=>0
 | x::r=>ctStep x+ctsStep r
theorem ctsStep_nil:ctsStep []=0:=rfl
theorem ctsStep_cons (x:Step) (r:List Step):ctsStep (x::r)=ctStep x+ctsStep r:=rfl
def mkStep (k:Int) (x:Step):Step:={ kind:=k,parent:=k+1,name:=mkTx (k+1+1),arg:=k+1+1+1,cond:=mksNode (k+1+1+1+1) x.cond,expr:=mksNode (k+1+1+1+1+(ctsNode x.cond:Nat)) x.expr }
def mksStep:Int→List Step→List Step
 | _,[]=>[]
 | k,x::r=>mkStep k x::mksStep (k+(ctStep x:Nat)) r
def ctAct (x:Act):Nat:=1+1+ctsint x.vars
def ctsAct:List Act→Nat
 | []=>0
 | x::r=>ctAct x+ctsAct r
theorem ctsAct_nil:ctsAct []=0:=rfl
theorem ctsAct_cons (x:Act) (r:List Act):ctsAct (x::r)=ctAct x+ctsAct r:=rfl
def mkAct (k:Int) (x:Act):Act:={ kind:=k,at_:=k+1,vars:=mksint (k+1+1) x.vars }
def mksAct:Int→List Act→List Act
 | _,[]=>[]
 | k,x::r=>mkAct k x::mksAct (k+(ctAct x:Nat)) r
end
set_option maxHeartbeats 4000000 in
theorem lmkintS (n:Nat) (hn:n≤2097152):∀ (rest:List Int) (i:Nat) (es:List (List T)) (k:Int),es.length=n→i+rest.length=n→es.drop i=rest.map iV→0≤k→k+(ctsint rest:Nat) < 2 ^ 60→
  evLoop E (orc E) (25:Nat) (rest.length+1) (loopOf Tryz.f25 0) ⟨19,[(0,.ref 0 0 [] 0 n),(1,vI k),(5,vI i)],[(0,⟨0,0,false,[.own 2 es]⟩)],2⟩=
  some (.exit 0,⟨19,[(0,.ref 0 0 [] 0 n),(1,vI (k+(ctsint rest:Nat))),(5,vI (n:Nat)),(9,vB false)],[(0,⟨0,0,false,[.own 2 (es.take i++(mksint k rest).map iV)]⟩)],2⟩)
 | [],i,es,k,hl,hi,h,h0,h1=>by
  have e:i=n:=by simpa using hi
  subst e
  have hlt:ltI (i:Int) (i:Int)=false:=ltI_f (by omega)
  have ht:es.take i=es:=List.take_of_length_le (by omega)
  rw [loop_eq]
  simp +contextual -dsimp [Tryz.f25,hlt,ht,ctsint_nil,mksint]
 | x::rest,i,es,k,hl,hi,h,h0,h1=>by
  simp only [List.length_cons] at hi
  have hin:i < n:=by omega
  have hi2:i < es.length:=by omega
  have hlt:ltI (i:Int) (n:Int)=true:=ltI_t (by omega)
  have hw:IntKind.i64.wrap ((i:Int)+1)=((i+1:Nat):Int):=by rw [wrapI] <;> omega
  have hd:=List.drop_eq_getElem_cons hi2
  rw [h,List.map_cons,List.cons.injEq] at hd
  obtain ⟨hz1,hr⟩:=hd
  have hz1:=hz1.symm
  rw [ctsint_cons] at h1
  obtain ⟨k1,e1⟩:∃ z,z=k+1:=⟨_,rfl⟩
  have w0:IntKind.i64.wrap (k+1)=k1:=by rw [e1,wrapI] <;> omega
  have hk:k1+(ctsint rest:Nat)=k+(ctsint (x::rest):Nat):=by rw [ctsint_cons]; omega
  have hm:mksint k (x::rest)=k::mksint k1 rest:=by rw [e1]; rfl
  have ih:=lmkintS n hn rest (i+1) (es.set i (iV k)) k1 (by simpa using hl) (by omega) (by rw [List.drop_set_of_lt (by omega)]; exact hr.symm) (by omega) (by omega)
  have hes:(es.set i (iV k)).take (i+1)=es.take i++[iV k]:=by
   rw [List.take_add_one,List.take_set_of_le (Nat.le_refl _)]
   simp [hi2]
  rw [hk,hes,List.append_assoc] at ih
  rw [hm]
  refine evLoop_next ?_ (by simpa only [List.length_cons,List.map_cons,List.singleton_append] using ih)
  simp (maxSteps:=1000000) +contextual -dsimp [Tryz.f25,hlt,hi2,hin,hw,hz1,hl,w0,lendEff,lendOne,lendMany,firstRef,lendRow,lendCell,putRow,putBack,valArg,List.set]
set_option maxHeartbeats 4000000 in
theorem o_markInt64S (l:List Int) (k:Int) (h0:0≤k) (h1:k+(ctsint l:Nat) < 2 ^ 60) (hn:l.length≤2097152):∃ b,fo 25 [⟨.ref 0 0 [] 0 l.length,some ⟨0,0,false,[.own 2 (l.map iV)]⟩⟩,A (vI k)]=some ⟨vI (k+(ctsint l:Nat)),[(0,[.own 2 ((mksint k l).map iV)])],b⟩:=by
 have hlp:=lmkintS l.length hn l 0 (l.map iV) k (by simp) (by simp) rfl h0 (by omega)
 have hcl:=oclean_int (mksint k l)
 refine ⟨true,orc_25 (l.length+1) ?_⟩
 generalize k+(ctsint l:Nat)=k' at *
 generalize mksint k l=l' at *
 simp -dsimp [Tryz.f25] at hlp
 simp (maxSteps:=1000000) +contextual -dsimp [Tryz.f25,hlp,hcl,finishL,mergeL,List.set]
set_option maxHeartbeats 4000000 in
theorem lmkNodeS (n:Nat) (hn:n≤2097152):∀ (rest:List Node) (i:Nat) (es:List (List T)) (k:Int),es.length=n→i+rest.length=n→es.drop i=rest.map nT→0≤k→k+(ctsNode rest:Nat) < 2 ^ 60→
  evLoop E (orc E) (86:Nat) (rest.length+1) (loopOf Tryz.f86 0) ⟨41,[(0,.ref 0 0 [] 0 n),(1,vI k),(5,vI i)],[(0,⟨0,0,false,[.own 219 es]⟩)],2⟩=
  some (.exit 0,⟨41,[(0,.ref 0 0 [] 0 n),(1,vI (k+(ctsNode rest:Nat))),(5,vI (n:Nat)),(9,vB false)],[(0,⟨0,0,false,[.own 219 (es.take i++(mksNode k rest).map nT)]⟩)],2⟩)
 | [],i,es,k,hl,hi,h,h0,h1=>by
  have e:i=n:=by simpa using hi
  subst e
  have hlt:ltI (i:Int) (i:Int)=false:=ltI_f (by omega)
  have ht:es.take i=es:=List.take_of_length_le (by omega)
  rw [loop_eq]
  simp +contextual -dsimp [Tryz.f86,hlt,ht,ctsNode_nil,mksNode]
 | x::rest,i,es,k,hl,hi,h,h0,h1=>by
  simp only [List.length_cons] at hi
  have hin:i < n:=by omega
  have hi2:i < es.length:=by omega
  have hlt:ltI (i:Int) (n:Int)=true:=ltI_t (by omega)
  have hw:IntKind.i64.wrap ((i:Int)+1)=((i+1:Nat):Int):=by rw [wrapI] <;> omega
  have hd:=List.drop_eq_getElem_cons hi2
  rw [h,List.map_cons,List.cons.injEq] at hd
  obtain ⟨hz1,hr⟩:=hd
  have hz1:=hz1.symm
  rw [ctsNode_cons] at h1
  simp only [ctNode] at h1
  obtain ⟨k1,e1⟩:∃ z,z=k+1:=⟨_,rfl⟩
  have w0:IntKind.i64.wrap (k+1)=k1:=by rw [e1,wrapI] <;> omega
  obtain ⟨k2,e2⟩:∃ z,z=k1+1:=⟨_,rfl⟩
  have w1:IntKind.i64.wrap (k1+1)=k2:=by rw [e2,wrapI] <;> omega
  obtain ⟨k3,e3⟩:∃ z,z=k2+1:=⟨_,rfl⟩
  have w2:IntKind.i64.wrap (k2+1)=k3:=by rw [e3,wrapI] <;> omega
  obtain ⟨k4,e4⟩:∃ z,z=k3+1:=⟨_,rfl⟩
  have w3:IntKind.i64.wrap (k3+1)=k4:=by rw [e4,wrapI] <;> omega
  have hk:k4+(ctsNode rest:Nat)=k+(ctsNode (x::rest):Nat):=by rw [ctsNode_cons]; simp only [ctNode]; omega
  have hm:mksNode k (x::rest)=({ kind:=k,value:=k1,left:=k2,right:=k3 }:Node)::mksNode k4 rest:=by
   have e:k4=k+(ctNode x:Nat):=by simp only [ctNode]; omega
   have e2:mkNode k x=({ kind:=k,value:=k1,left:=k2,right:=k3 }:Node):=by subst_vars; rfl
   simp only [mksNode]; rw [e2,e]
  have ih:=lmkNodeS n hn rest (i+1) (es.set i (nT ({ kind:=k,value:=k1,left:=k2,right:=k3 }:Node))) k4 (by simpa using hl) (by omega) (by rw [List.drop_set_of_lt (by omega)]; exact hr.symm) (by omega) (by omega)
  have hes:(es.set i (nT ({ kind:=k,value:=k1,left:=k2,right:=k3 }:Node))).take (i+1)=es.take i++[nT ({ kind:=k,value:=k1,left:=k2,right:=k3 }:Node)]:=by
   rw [List.take_add_one,List.take_set_of_le (Nat.le_refl _)]
   simp [hi2]
  rw [hk,hes,List.append_assoc] at ih
  rw [hm]
  refine evLoop_next ?_ (by simpa only [List.length_cons,List.map_cons,List.singleton_append] using ih)
  simp (maxSteps:=1000000) +contextual -dsimp [Tryz.f86,hlt,hi2,hin,hw,hz1,hl,w0,w1,w2,w3,lendEff,lendOne,lendMany,firstRef,lendRow,lendCell,putRow,putBack,valArg,List.set]
set_option maxHeartbeats 4000000 in
theorem o_markNodeS (l:List Node) (k:Int) (h0:0≤k) (h1:k+(ctsNode l:Nat) < 2 ^ 60) (hn:l.length≤2097152):∃ b,fo 86 [⟨.ref 0 0 [] 0 l.length,some ⟨0,0,false,[.own 219 (l.map nT)]⟩⟩,A (vI k)]=some ⟨vI (k+(ctsNode l:Nat)),[(0,[.own 219 ((mksNode k l).map nT)])],b⟩:=by
 have hlp:=lmkNodeS l.length hn l 0 (l.map nT) k (by simp) (by simp) rfl h0 (by omega)
 have hcl:=oclean_Node (mksNode k l)
 refine ⟨true,orc_86 (l.length+1) ?_⟩
 generalize k+(ctsNode l:Nat)=k' at *
 generalize mksNode k l=l' at *
 simp -dsimp [Tryz.f86] at hlp
 simp (maxSteps:=1000000) +contextual -dsimp [Tryz.f86,hlp,hcl,finishL,mergeL,List.set]
set_option maxHeartbeats 4000000 in
theorem lmkStepS (n:Nat) (hn:n≤2097152):∀ (rest:List Step) (i:Nat) (es:List (List T)) (k:Int),es.length=n→i+rest.length=n→es.drop i=rest.map StepO→(∀ x,x∈rest→wStep x≤2097152)→0≤k→k+(ctsStep rest:Nat) < 2 ^ 60→
  evLoop E (orc E) (24:Nat) (rest.length+1) (loopOf Tryz.f24 0) ⟨56,[(0,.ref 0 0 [] 0 n),(1,vI k),(5,vI i)],[(0,⟨0,0,false,[.own 124 es]⟩)],2⟩=
  some (.exit 0,⟨56,[(0,.ref 0 0 [] 0 n),(1,vI (k+(ctsStep rest:Nat))),(5,vI (n:Nat)),(9,vB false)],[(0,⟨0,0,false,[.own 124 (es.take i++(mksStep k rest).map StepO)]⟩)],2⟩)
 | [],i,es,k,hl,hi,h,hf,h0,h1=>by
  have e:i=n:=by simpa using hi
  subst e
  have hlt:ltI (i:Int) (i:Int)=false:=ltI_f (by omega)
  have ht:es.take i=es:=List.take_of_length_le (by omega)
  rw [loop_eq]
  simp +contextual -dsimp [Tryz.f24,hlt,ht,ctsStep_nil,mksStep]
 | x::rest,i,es,k,hl,hi,h,hf,h0,h1=>by
  have hx:=hf x (by simp)
  simp only [List.length_cons] at hi
  have hin:i < n:=by omega
  have hi2:i < es.length:=by omega
  have hlt:ltI (i:Int) (n:Int)=true:=ltI_t (by omega)
  have hw:IntKind.i64.wrap ((i:Int)+1)=((i+1:Nat):Int):=by rw [wrapI] <;> omega
  have hd:=List.drop_eq_getElem_cons hi2
  rw [h,List.map_cons,List.cons.injEq] at hd
  obtain ⟨hz1,hr⟩:=hd
  have hz1:=hz1.symm
  rw [ctsStep_cons] at h1
  simp only [ctStep] at h1
  obtain ⟨k1,e1⟩:∃ z,z=k+1:=⟨_,rfl⟩
  have w0:IntKind.i64.wrap (k+1)=k1:=by rw [e1,wrapI] <;> omega
  obtain ⟨k2,e2⟩:∃ z,z=k1+1:=⟨_,rfl⟩
  have w1:IntKind.i64.wrap (k1+1)=k2:=by rw [e2,wrapI] <;> omega
  obtain ⟨k3,e3⟩:∃ z,z=k2+1:=⟨_,rfl⟩
  have w2:IntKind.i64.wrap (k2+1)=k3:=by rw [e3,wrapI] <;> omega
  have g2:=o_markText k2 (by omega) (by omega)
  obtain ⟨k4,e4⟩:∃ z,z=k3+1:=⟨_,rfl⟩
  have w3:IntKind.i64.wrap (k3+1)=k4:=by rw [e4,wrapI] <;> omega
  obtain ⟨k5,e5⟩:∃ z,z=k4+(ctsNode x.cond:Nat):=⟨_,rfl⟩
  obtain ⟨b4,g4⟩:=o_markNodeS x.cond k4 (by omega) (by omega) (by simp only [wStep] at hx; omega)
  rw [← e5] at g4
  obtain ⟨k6,e6⟩:∃ z,z=k5+(ctsNode x.expr:Nat):=⟨_,rfl⟩
  obtain ⟨b5,g5⟩:=o_markNodeS x.expr k5 (by omega) (by omega) (by simp only [wStep] at hx; omega)
  rw [← e6] at g5
  have hk:k6+(ctsStep rest:Nat)=k+(ctsStep (x::rest):Nat):=by rw [ctsStep_cons]; simp only [ctStep]; omega
  have hm:mksStep k (x::rest)=({ kind:=k,parent:=k1,name:=mkTx k2,arg:=k3,cond:=mksNode k4 x.cond,expr:=mksNode k5 x.expr }:Step)::mksStep k6 rest:=by
   have e:k6=k+(ctStep x:Nat):=by simp only [ctStep]; omega
   have e2:mkStep k x=({ kind:=k,parent:=k1,name:=mkTx k2,arg:=k3,cond:=mksNode k4 x.cond,expr:=mksNode k5 x.expr }:Step):=by subst_vars; rfl
   simp only [mksStep]; rw [e2,e]
  have ih:=lmkStepS n hn rest (i+1) (es.set i (StepO ({ kind:=k,parent:=k1,name:=mkTx k2,arg:=k3,cond:=mksNode k4 x.cond,expr:=mksNode k5 x.expr }:Step))) k6 (by simpa using hl) (by omega) (by rw [List.drop_set_of_lt (by omega)]; exact hr.symm) (fun y hy=>hf y (by simp [hy])) (by omega) (by omega)
  have hes:(es.set i (StepO ({ kind:=k,parent:=k1,name:=mkTx k2,arg:=k3,cond:=mksNode k4 x.cond,expr:=mksNode k5 x.expr }:Step))).take (i+1)=es.take i++[StepO ({ kind:=k,parent:=k1,name:=mkTx k2,arg:=k3,cond:=mksNode k4 x.cond,expr:=mksNode k5 x.expr }:Step)]:=by
   rw [List.take_add_one,List.take_set_of_le (Nat.le_refl _)]
   simp [hi2]
  rw [hk,hes,List.append_assoc] at ih
  rw [hm]
  refine evLoop_next ?_ (by simpa only [List.length_cons,List.map_cons,List.singleton_append] using ih)
  simp (maxSteps:=1000000) +contextual -dsimp [Tryz.f24,hlt,hi2,hin,hw,hz1,hl,w0,w1,w2,g2,w3,g4,g5,lendEff,lendOne,lendMany,firstRef,lendRow,lendCell,putRow,putBack,valArg,List.set]
set_option maxHeartbeats 4000000 in
theorem o_markStepS (l:List Step) (k:Int) (h0:0≤k) (h1:k+(ctsStep l:Nat) < 2 ^ 60) (hn:l.length≤2097152) (hf:∀ x,x∈l→wStep x≤2097152):∃ b,fo 24 [⟨.ref 0 0 [] 0 l.length,some ⟨0,0,false,[.own 124 (l.map StepO)]⟩⟩,A (vI k)]=some ⟨vI (k+(ctsStep l:Nat)),[(0,[.own 124 ((mksStep k l).map StepO)])],b⟩:=by
 have hlp:=lmkStepS l.length hn l 0 (l.map StepO) k (by simp) (by simp) rfl hf h0 (by omega)
 have hcl:=oclean_Step (mksStep k l)
 refine ⟨true,orc_24 (l.length+1) ?_⟩
 generalize k+(ctsStep l:Nat)=k' at *
 generalize mksStep k l=l' at *
 simp -dsimp [Tryz.f24] at hlp
 simp (maxSteps:=1000000) +contextual -dsimp [Tryz.f24,hlp,hcl,finishL,mergeL,List.set]
set_option maxHeartbeats 4000000 in
theorem lmkActS (n:Nat) (hn:n≤2097152):∀ (rest:List Act) (i:Nat) (es:List (List T)) (k:Int),es.length=n→i+rest.length=n→es.drop i=rest.map ActO→(∀ x,x∈rest→wAct x≤2097152)→0≤k→k+(ctsAct rest:Nat) < 2 ^ 60→
  evLoop E (orc E) (26:Nat) (rest.length+1) (loopOf Tryz.f26 0) ⟨34,[(0,.ref 0 0 [] 0 n),(1,vI k),(5,vI i)],[(0,⟨0,0,false,[.own 119 es]⟩)],2⟩=
  some (.exit 0,⟨34,[(0,.ref 0 0 [] 0 n),(1,vI (k+(ctsAct rest:Nat))),(5,vI (n:Nat)),(9,vB false)],[(0,⟨0,0,false,[.own 119 (es.take i++(mksAct k rest).map ActO)]⟩)],2⟩)
 | [],i,es,k,hl,hi,h,hf,h0,h1=>by
  have e:i=n:=by simpa using hi
  subst e
  have hlt:ltI (i:Int) (i:Int)=false:=ltI_f (by omega)
  have ht:es.take i=es:=List.take_of_length_le (by omega)
  rw [loop_eq]
  simp +contextual -dsimp [Tryz.f26,hlt,ht,ctsAct_nil,mksAct]
 | x::rest,i,es,k,hl,hi,h,hf,h0,h1=>by
  have hx:=hf x (by simp)
  simp only [List.length_cons] at hi
  have hin:i < n:=by omega
  have hi2:i < es.length:=by omega
  have hlt:ltI (i:Int) (n:Int)=true:=ltI_t (by omega)
  have hw:IntKind.i64.wrap ((i:Int)+1)=((i+1:Nat):Int):=by rw [wrapI] <;> omega
  have hd:=List.drop_eq_getElem_cons hi2
  rw [h,List.map_cons,List.cons.injEq] at hd
  obtain ⟨hz1,hr⟩:=hd
  have hz1:=hz1.symm
  rw [ctsAct_cons] at h1
  simp only [ctAct] at h1
  obtain ⟨k1,e1⟩:∃ z,z=k+1:=⟨_,rfl⟩
  have w0:IntKind.i64.wrap (k+1)=k1:=by rw [e1,wrapI] <;> omega
  obtain ⟨k2,e2⟩:∃ z,z=k1+1:=⟨_,rfl⟩
  have w1:IntKind.i64.wrap (k1+1)=k2:=by rw [e2,wrapI] <;> omega
  obtain ⟨k3,e3⟩:∃ z,z=k2+(ctsint x.vars:Nat):=⟨_,rfl⟩
  obtain ⟨b2,g2⟩:=o_markInt64S x.vars k2 (by omega) (by omega) (by simp only [wAct] at hx; omega)
  rw [← e3] at g2
  have hk:k3+(ctsAct rest:Nat)=k+(ctsAct (x::rest):Nat):=by rw [ctsAct_cons]; simp only [ctAct]; omega
  have hm:mksAct k (x::rest)=({ kind:=k,at_:=k1,vars:=mksint k2 x.vars }:Act)::mksAct k3 rest:=by
   have e:k3=k+(ctAct x:Nat):=by simp only [ctAct]; omega
   have e2:mkAct k x=({ kind:=k,at_:=k1,vars:=mksint k2 x.vars }:Act):=by subst_vars; rfl
   simp only [mksAct]; rw [e2,e]
  have ih:=lmkActS n hn rest (i+1) (es.set i (ActO ({ kind:=k,at_:=k1,vars:=mksint k2 x.vars }:Act))) k3 (by simpa using hl) (by omega) (by rw [List.drop_set_of_lt (by omega)]; exact hr.symm) (fun y hy=>hf y (by simp [hy])) (by omega) (by omega)
  have hes:(es.set i (ActO ({ kind:=k,at_:=k1,vars:=mksint k2 x.vars }:Act))).take (i+1)=es.take i++[ActO ({ kind:=k,at_:=k1,vars:=mksint k2 x.vars }:Act)]:=by
   rw [List.take_add_one,List.take_set_of_le (Nat.le_refl _)]
   simp [hi2]
  rw [hk,hes,List.append_assoc] at ih
  rw [hm]
  refine evLoop_next ?_ (by simpa only [List.length_cons,List.map_cons,List.singleton_append] using ih)
  simp (maxSteps:=1000000) +contextual -dsimp [Tryz.f26,hlt,hi2,hin,hw,hz1,hl,w0,w1,g2,lendEff,lendOne,lendMany,firstRef,lendRow,lendCell,putRow,putBack,valArg,List.set]
set_option maxHeartbeats 4000000 in
theorem o_markActS (l:List Act) (k:Int) (h0:0≤k) (h1:k+(ctsAct l:Nat) < 2 ^ 60) (hn:l.length≤2097152) (hf:∀ x,x∈l→wAct x≤2097152):∃ b,fo 26 [⟨.ref 0 0 [] 0 l.length,some ⟨0,0,false,[.own 119 (l.map ActO)]⟩⟩,A (vI k)]=some ⟨vI (k+(ctsAct l:Nat)),[(0,[.own 119 ((mksAct k l).map ActO)])],b⟩:=by
 have hlp:=lmkActS l.length hn l 0 (l.map ActO) k (by simp) (by simp) rfl hf h0 (by omega)
 have hcl:=oclean_Act (mksAct k l)
 refine ⟨true,orc_26 (l.length+1) ?_⟩
 generalize k+(ctsAct l:Nat)=k' at *
 generalize mksAct k l=l' at *
 simp -dsimp [Tryz.f26] at hlp
 simp (maxSteps:=1000000) +contextual -dsimp [Tryz.f26,hlp,hcl,finishL,mergeL,List.set]
end Go.TM.Ft
namespace Go.TM.Ft
open Go Go.TM Go.Proofs
set_option maxRecDepth 20000
attribute [local congr] gif_cg
attribute [local simp] footOf noClash clash upsets setsHit setHits layHits layMeets setsMeet evFeet
def czChart (x:Chart):Nat:=ctsint x.vars+ctsint x.acts+ctsint x.dues
noncomputable def mzChart (k:Int) (x:Chart):Chart:={ x with vars:=mksint (k) x.vars,acts:=mksint (k+(ctsint x.vars:Nat)) x.acts,dues:=mksint (k+(ctsint x.vars:Nat)+(ctsint x.acts:Nat)) x.dues }
set_option maxHeartbeats 4000000 in
theorem o_markChart (x:Chart) (k:Int) (h0:0≤k) (h1:k+(czChart x:Nat) < 2 ^ 59) (hx:wChart x≤2097152):∃ b,fo 88 [⟨.agg [vI x.status,vI x.now,.ref 0 0 [] 2 x.vars.length,.ref 0 0 [] 3 x.acts.length,.ref 0 0 [] 4 x.dues.length],some ⟨0,0,false,[.dead,.dead,.own 2 (x.vars.map iV),.own 2 (x.acts.map iV),.own 2 (x.dues.map iV)]⟩⟩,A (vI k)]=some ⟨vI (k+(czChart x:Nat)),[(0,ChartO (mzChart k x))],b⟩:=by
 simp only [czChart] at h1
 obtain ⟨k1,e1⟩:∃ z,z=k+(ctsint x.vars:Nat):=⟨_,rfl⟩
 obtain ⟨b0,g0⟩:=o_markInt64S x.vars k (by omega) (by omega) (by simp only [wChart] at hx; omega)
 rw [← e1] at g0
 obtain ⟨k2,e2⟩:∃ z,z=k1+(ctsint x.acts:Nat):=⟨_,rfl⟩
 obtain ⟨b1,g1⟩:=o_markInt64S x.acts k1 (by omega) (by omega) (by simp only [wChart] at hx; omega)
 rw [← e2] at g1
 obtain ⟨k3,e3⟩:∃ z,z=k2+(ctsint x.dues:Nat):=⟨_,rfl⟩
 obtain ⟨b2,g2⟩:=o_markInt64S x.dues k2 (by omega) (by omega) (by simp only [wChart] at hx; omega)
 rw [← e3] at g2
 have hk:k+(czChart x:Nat)=k3:=by simp only [czChart]; omega
 have hm:mzChart k x={ x with vars:=mksint k x.vars,acts:=mksint k1 x.acts,dues:=mksint k2 x.dues }:=by subst_vars; rfl
 rw [hk,hm]
 refine ⟨true,orc_88 1 ?_⟩
 simp (maxSteps:=1000000) +contextual -dsimp [Tryz.f88,g0,g1,g2,oclean_int,evBodyB,boxed,finishB,finishL,mergeL,lendEff,lendOne,lendMany,firstRef,lendRow,lendCell,putRow,putBack,valArg,List.set]
def czRun (x:RunV):Nat:=ctsint x.vars+ctsint x.marks+ctsint x.dues
noncomputable def mzRun (k:Int) (x:RunV):RunV:={ x with vars:=mksint (k) x.vars,marks:=mksint (k+(ctsint x.vars:Nat)) x.marks,dues:=mksint (k+(ctsint x.vars:Nat)+(ctsint x.marks:Nat)) x.dues }
set_option maxHeartbeats 4000000 in
theorem o_markRun (x:RunV) (k:Int) (h0:0≤k) (h1:k+(czRun x:Nat) < 2 ^ 59) (hx:wRun x≤2097152):∃ b,fo 87 [⟨.agg [vI x.status,vI x.now,.ref 0 0 [] 2 x.vars.length,.ref 0 0 [] 3 x.marks.length,.ref 0 0 [] 4 x.dues.length],some ⟨0,0,false,[.dead,.dead,.own 2 (x.vars.map iV),.own 2 (x.marks.map iV),.own 2 (x.dues.map iV)]⟩⟩,A (vI k)]=some ⟨vI (k+(czRun x:Nat)),[(0,RunO (mzRun k x))],b⟩:=by
 simp only [czRun] at h1
 obtain ⟨k1,e1⟩:∃ z,z=k+(ctsint x.vars:Nat):=⟨_,rfl⟩
 obtain ⟨b0,g0⟩:=o_markInt64S x.vars k (by omega) (by omega) (by simp only [wRun] at hx; omega)
 rw [← e1] at g0
 obtain ⟨k2,e2⟩:∃ z,z=k1+(ctsint x.marks:Nat):=⟨_,rfl⟩
 obtain ⟨b1,g1⟩:=o_markInt64S x.marks k1 (by omega) (by omega) (by simp only [wRun] at hx; omega)
 rw [← e2] at g1
 obtain ⟨k3,e3⟩:∃ z,z=k2+(ctsint x.dues:Nat):=⟨_,rfl⟩
 obtain ⟨b2,g2⟩:=o_markInt64S x.dues k2 (by omega) (by omega) (by simp only [wRun] at hx; omega)
 rw [← e3] at g2
 have hk:k+(czRun x:Nat)=k3:=by simp only [czRun]; omega
 have hm:mzRun k x={ x with vars:=mksint k x.vars,marks:=mksint k1 x.marks,dues:=mksint k2 x.dues }:=by subst_vars; rfl
 rw [hk,hm]
 refine ⟨true,orc_87 1 ?_⟩
 simp (maxSteps:=1000000) +contextual -dsimp [Tryz.f87,g0,g1,g2,oclean_int,evBodyB,boxed,finishB,finishL,mergeL,lendEff,lendOne,lendMany,firstRef,lendRow,lendCell,putRow,putBack,valArg,List.set]
def czPlayResult (x:PlayR):Nat:=ctsint x.codes+czRun x.run+czChart x.chart
noncomputable def mzPlayResult (k:Int) (x:PlayR):PlayR:={ x with codes:=mksint (k) x.codes,run:=mzRun (k+(ctsint x.codes:Nat)) x.run,chart:=mzChart (k+(ctsint x.codes:Nat)+(czRun x.run:Nat)) x.chart }
set_option maxHeartbeats 4000000 in
theorem o_markPlayResult (x:PlayR) (k:Int) (h0:0≤k) (h1:k+(czPlayResult x:Nat) < 2 ^ 59) (hx:wPlayResult x≤2097152):∃ b,fo 27 [⟨.agg [vI x.code,.ref 0 0 [] 1 x.codes.length,vI x.run.status,vI x.run.now,.ref 0 0 [] 4 x.run.vars.length,.ref 0 0 [] 5 x.run.marks.length,.ref 0 0 [] 6 x.run.dues.length,vI x.chart.status,vI x.chart.now,.ref 0 0 [] 9 x.chart.vars.length,.ref 0 0 [] 10 x.chart.acts.length,.ref 0 0 [] 11 x.chart.dues.length],some ⟨0,0,false,[.dead,.own 2 (x.codes.map iV),.dead,.dead,.own 2 (x.run.vars.map iV),.own 2 (x.run.marks.map iV),.own 2 (x.run.dues.map iV),.dead,.dead,.own 2 (x.chart.vars.map iV),.own 2 (x.chart.acts.map iV),.own 2 (x.chart.dues.map iV)]⟩⟩,A (vI k)]=some ⟨vI (k+(czPlayResult x:Nat)),[(0,PlayResultO (mzPlayResult k x))],b⟩:=by
 simp only [czPlayResult] at h1
 obtain ⟨k1,e1⟩:∃ z,z=k+(ctsint x.codes:Nat):=⟨_,rfl⟩
 obtain ⟨b0,g0⟩:=o_markInt64S x.codes k (by omega) (by omega) (by simp only [wPlayResult,wRun,wChart] at hx; omega)
 rw [← e1] at g0
 obtain ⟨k2,e2⟩:∃ z,z=k1+(czRun x.run:Nat):=⟨_,rfl⟩
 obtain ⟨b1,g1⟩:=o_markRun x.run k1 (by omega) (by omega) (by simp only [wPlayResult] at hx; omega)
 rw [← e2] at g1
 obtain ⟨k3,e3⟩:∃ z,z=k2+(czChart x.chart:Nat):=⟨_,rfl⟩
 obtain ⟨b2,g2⟩:=o_markChart x.chart k2 (by omega) (by omega) (by simp only [wPlayResult] at hx; omega)
 rw [← e3] at g2
 have hk:k+(czPlayResult x:Nat)=k3:=by simp only [czPlayResult]; omega
 have hm:mzPlayResult k x={ x with codes:=mksint k x.codes,run:=mzRun k1 x.run,chart:=mzChart k2 x.chart }:=by subst_vars; rfl
 rw [hk,hm]
 refine ⟨true,orc_27 1 ?_⟩
 simp (maxSteps:=1000000) +contextual -dsimp [Tryz.f27,g0,g1,g2,oclean_int,evBodyB,boxed,finishB,finishL,mergeL,lendEff,lendOne,lendMany,firstRef,lendRow,lendCell,putRow,putBack,valArg,List.set]
 all_goals (repeat' (first | rfl | constructor))
end Go.TM.Ft
