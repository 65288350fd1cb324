/- What functions of the program come to, by the machine. -/
import Derived.Test.YtldklhcklkaplaaGreatDoorTE
set_option linter.unusedSimpArgs false
set_option linter.unusedVariables false
set_option maxHeartbeats 1000000
namespace Go.TM.It
open Go Go.TM Go.Proofs
set_option maxRecDepth 20000
abbrev vI (n:Int):T:=.v (.int .i64 n)
abbrev vB (b:Bool):T:=.v (.bool b)
abbrev vS (s:ByteArray):T:=.v (.string s)
abbrev A (t:T):Arg:=⟨t,none⟩
abbrev R (t:T):Res:=⟨t,[],true⟩
def eqI (a b:Int):Bool:=a==b
def leI (a b:Int):Bool:=decide (a≤b)
def ltI (a b:Int):Bool:=decide (a<b)
def eqB (a b:Bool):Bool:=a==b
def eqS (a b:ByteArray):Bool:=a.toList==b.toList
theorem ltI_t {a b:Int} (h:a<b):ltI a b=true:=by simp[ltI,h]
theorem ltI_f {a b:Int} (h:¬ a<b):ltI a b=false:=by simp[ltI];omega
theorem eqS_self (a:ByteArray):eqS a a=true:=by simp[eqS]
section pr
variable (P:Program) (t:TypeId) (x y:Operand)
theorem pr_leq (k:IntKind) (a b:Int):pureRun P (do eqGuard .leq t x y (.int k a) (.int k b);binOp .leq t (.int k a) (.int k b))=some (.bool (leI a b)):=by cases k<;>rfl
theorem pr_lss (k:IntKind) (a b:Int):pureRun P (do eqGuard .lss t x y (.int k a) (.int k b);binOp .lss t (.int k a) (.int k b))=some (.bool (ltI a b)):=by cases k<;>rfl
theorem pr_gtr (k:IntKind) (a b:Int):pureRun P (do eqGuard .gtr t x y (.int k a) (.int k b);binOp .gtr t (.int k a) (.int k b))=some (.bool (ltI b a)):=by cases k<;>rfl
theorem pr_geq (k:IntKind) (a b:Int):pureRun P (do eqGuard .geq t x y (.int k a) (.int k b);binOp .geq t (.int k a) (.int k b))=some (.bool (leI b a)):=by cases k<;>rfl
theorem pr_eql (k:IntKind) (a b:Int):pureRun P (do eqGuard .eql t x y (.int k a) (.int k b);binOp .eql t (.int k a) (.int k b))=some (.bool (eqI a b)):=by cases k<;>rfl
theorem pr_neq (k:IntKind) (a b:Int):pureRun P (do eqGuard .neq t x y (.int k a) (.int k b);binOp .neq t (.int k a) (.int k b))=some (.bool (notB (eqI a b))):=by cases k<;>rfl
theorem pr_add (k:IntKind) (a b:Int):pureRun P (do eqGuard .add t x y (.int k a) (.int k b);binOp .add t (.int k a) (.int k b))=some (.int k (k.wrap (a+b))):=by cases k<;>rfl
theorem pr_sub (k:IntKind) (a b:Int):pureRun P (do eqGuard .sub t x y (.int k a) (.int k b);binOp .sub t (.int k a) (.int k b))=some (.int k (k.wrap (a - b))):=by cases k<;>rfl
theorem pr_eqlB (a b:Bool):pureRun Tryz.prog (do eqGuard .eql 4 x y (.bool a) (.bool b);binOp .eql 4 (.bool a) (.bool b))=some (.bool (eqB a b)):=by kernel_rfl
theorem pr_neqB (a b:Bool):pureRun Tryz.prog (do eqGuard .neq 4 x y (.bool a) (.bool b);binOp .neq 4 (.bool a) (.bool b))=some (.bool (notB (eqB a b))):=by kernel_rfl
theorem pr_eqlS (a b:ByteArray):pureRun P (do eqGuard .eql t x y (.string a) (.string b);binOp .eql t (.string a) (.string b))=some (.bool (eqS a b)):=rfl
theorem pr_neqS (a b:ByteArray):pureRun P (do eqGuard .neq t x y (.string a) (.string b);binOp .neq t (.string a) (.string b))=some (.bool (notB (eqS a b))):=rfl
theorem pr_idx (s:ByteArray) (i:Int) (b:UInt8) (h:0≤i) (hb:s[i.toNat]?=some b):pureRun Tryz.prog (Instr.index 9 (.string s) (.int .i64 i))=some (.int .u8 b.toNat):=by
 have h1:Tryz.prog.underlying 9=some .string:=by kernel_rfl
 simp[Instr.index,asIntOf,underlying,program,pureRun,Sem.bind,Bind.bind,Pure.pure,h1,h,hb]
theorem pr_lenS (s:ByteArray):pureRun Tryz.prog (Builtin.len_ #[9] t #[.string s])=some (.int .i64 s.size):=by kernel_rfl
theorem pr_not (a:Bool):pureRun P (Op.unary .not (.bool a))=some (.bool (notB a)):=rfl
end pr
attribute [simp] boxOut del globOf globRows fresh ownLen restamp body_eq code_seq code_block code_skip code_ret code_exit code_loop code_cond code_region thenC_normal thenC_ret thenC_exit thenC_none outB_normal outB_ret outB_exit outB_none endB_normal endB_ret thenC_ite thenC_ite' outB_ite outB_ite' endB_ite endB_ite' nextL_normal nextL_ret nextL_exit nextL_ite nextL_ite' ite_Res evRegion evOps evOne wanted initFr initRt evOp Rd.of Rd.bind Rd.run Rd.touched St.val lk up toVal plainEff St.apply setsOk setsApart apartFrom newOk setCells setCell strike unspent spent only reFr reRt reX re1 re0 stampOf isDead finish resTop resAll resOne closeT closeL close1 outsOf tupled clean cleanL cleanEs nilOf
 E_P callEff0 lends finishX sealP reP notNil hvOf nxt pr_leq pr_lss pr_gtr pr_geq pr_eql pr_neq pr_add pr_sub pr_not pr_eqlB pr_neqB pr_eqlS pr_neqS pr_lenS clrT evClear clearOf plainCell callEff callEff1 viewOf viewT viewable viewEff far isN callFar farArgs placeN rowN putN mkArgs mkArg seal2 seal1 seal0 sealCells distinct comeBack sealRes seal_ sealL sealEs Eff.with
 ite_T ite_vint ite_some' orB_tr orB_fr andB_tr andB_fr orB_tl orB_fl andB_tl andB_fl notB_t notB_f notB_notB gif_t gif_f gif_same gif_and gif_some gif_Eff gif_T eqW_t eqW_f wantV_bool' wantV_undef' wantV_gif gif_bf pif_t pif_f pickT_v pick_or pick_or2 pick_or2a pick_and pick_and2 pick_and4 pick_and5 pick_or3 pick_and3
 content rdPlace rdCells rdRow splice setRow wrRow takeRef inline1 inlineL inlineR deepOf deep1 anyDeep takes descend graft view1 viewFrom closed1 flat1 tupView tupCells bare rooted boundOf cap1 one1 srcOf dstOf stamp fillParts fillElems partCells zeroAt evBuildParts evElems lentRow Root.at_ newOk
 loopOf loopsC evOpsK pause without args sliceLen valsOf oneVal intArg loadT cell1 anyOwn isOwn T.cells
attribute [local congr] gif_cg
def inR (n low high:Int):Bool:=andB (leI low n) (leI n high)
theorem f_inRange (a b c:Int):fo 45 [A (vI a),A (vI b),A (vI c)]=some (R (vB (inR a b c))):=by
 refine orc_45 1 ?_
 simp +contextual -dsimp [Tryz.f45,inR]
theorem f_codeIf (b:Bool) (c:Int):fo 22 [A (vB b),A (vI c)]=some (R (vI (if b then c else 0))):=by
 refine orc_22 1 ?_
 cases b<;>simp -dsimp [Tryz.f22]
theorem f_l1In (a b c:Int):fo 16 [A (vI a),A (vI b),A (vI c)]=some (R (vB (inR a b c))):=by
 refine orc_16 1 ?_
 simp +contextual -dsimp [Tryz.f16,inR]
theorem f_l3Two (a:Int):fo 156 [A (vI a)]=some (R (vB (inR a 3 9))):=by
 refine orc_156 1 ?_
 simp -dsimp [Tryz.f156,f_l1In]
theorem f_isTwo (a:Int):fo 151 [A (vI a)]=some (R (vB (inR a 3 9))):=by
 refine orc_151 1 ?_
 simp -dsimp [Tryz.f151,f_inRange]
theorem f_isSmall (c:Int):fo 149 [A (.v (.int .u8 c))]=some (R (vB (inR c 97 122))):=by
 refine orc_149 1 ?_
 simp +contextual -dsimp [Tryz.f149,inR]
structure Node where
 kind:Int
 value:Int
 left:Int
 right:Int
structure Step where
 kind:Int
 parent:Int
 name:ByteArray
 arg:Int
 cond:List Node
 expr:List Node
abbrev nT (n:Node):List T:=[vI n.kind,vI n.value,vI n.left,vI n.right]
abbrev nS (e:TypeId) (l:List Node):T:=.sl e (l.map nT)
abbrev sT (e:TypeId) (s:Step):List T:=[vI s.kind,vI s.parent,vS s.name,vI s.arg,nS e s.cond,nS e s.expr]
abbrev emp:ByteArray:=⟨#[]⟩
def first2 (a b:Int):Int:=if eqI a 0 then b else a
theorem f_first2 (a b:Int):fo 20 [A (.sl 2 [[vI a],[vI b]])]=some (R (vI (first2 a b))):=by
 have h0:ltI 0 2=true:=rfl
 have h1:ltI 1 2=true:=rfl
 have h2:ltI 2 2=false:=rfl
 have w1:IntKind.i64.wrap 1=1:=rfl
 have w2:IntKind.i64.wrap 2=2:=rfl
 refine orc_20 4 ?_
 cases ha:eqI a 0
 ·simp -dsimp [Tryz.f20,loop_eq,h0,ha,first2]
 ·cases hb:eqI b 0
  ·simp -dsimp [Tryz.f20,loop_eq,h0,h1,w1,ha,hb,first2]
  ·simp -dsimp [Tryz.f20,loop_eq,h0,h1,h2,w1,w2,ha,hb,first2]
   simp[eqI] at hb;exact hb.symm
theorem f_l4Bare (s:Step):fo 117 [A (.ipt (sT 206 s))]=some (R (vB (andB (andB (orB (eqI s.kind 2) (eqS s.name emp)) (orB (inR s.kind 5 8) (eqI s.arg 0))) (orB (eqI s.kind 7) (eqI s.expr.length 0))))):=by
 refine orc_117 1 ?_
 simp +contextual -dsimp [Tryz.f117,f_l1In]
def argM (k a:Int):Bool:=if eqI k 5 then inR a 0 9 else if eqI k 6||eqI k 8 then inR a 1 99 else if eqI k 7 then inR a 0 3 else true
theorem f_l4Arg (s:Step):fo 121 [A (.ipt (sT 206 s))]=some (R (vB (argM s.kind s.arg))):=by
 refine orc_121 1 ?_
 cases h5:eqI s.kind 5
 ·cases h6:eqI s.kind 6
  ·cases h8:eqI s.kind 8
   ·cases h7:eqI s.kind 7
    ·simp -dsimp [Tryz.f121,h5,h6,h8,h7,argM]
    ·simp -dsimp [Tryz.f121,f_l1In,h5,h6,h8,h7,argM]
   ·simp -dsimp [Tryz.f121,f_l1In,h5,h6,h8,argM]
  ·simp -dsimp [Tryz.f121,f_l1In,h5,h6,argM]
 ·simp -dsimp [Tryz.f121,f_l1In,h5,argM]
abbrev R2 (a b:T):Res:=⟨.tup [a,b],[],true⟩
def argB (k:Int):Int×Int:=if eqI k 5 then (0,9) else if eqI k 6||eqI k 8 then (1,99) else if eqI k 7 then (0,3) else (0,0)
theorem f_argBounds (k:Int):fo 127 [A (vI k)]=some (R2 (vI (argB k).1) (vI (argB k).2)):=by
 refine orc_127 1 ?_
 cases h5:eqI k 5
 ·cases h6:eqI k 6
  ·cases h8:eqI k 8
   ·cases h7:eqI k 7
    ·simp -dsimp [Tryz.f127,h5,h6,h8,h7,argB]
    ·simp -dsimp [Tryz.f127,h5,h6,h8,h7,argB]
   ·simp -dsimp [Tryz.f127,h5,h6,h8,argB]
  ·simp -dsimp [Tryz.f127,h5,h6,argB]
 ·simp -dsimp [Tryz.f127,h5,argB]
def kidB (k:Int):Int×Int:=if eqI k 1 then (1,24) else if eqI k 3||eqI k 4 then (2,24) else if eqI k 8 then (2,2) else (0,0)
theorem f_kidBounds (k:Int):fo 132 [A (vI k)]=some (R2 (vI (kidB k).1) (vI (kidB k).2)):=by
 refine orc_132 1 ?_
 cases h5:eqI k 1
 ·cases h6:eqI k 3
  ·cases h8:eqI k 4
   ·cases h7:eqI k 8
    ·simp -dsimp [Tryz.f132,h5,h6,h8,h7,kidB]
    ·simp -dsimp [Tryz.f132,h5,h6,h8,h7,kidB]
   ·simp -dsimp [Tryz.f132,h5,h6,h8,kidB]
  ·simp -dsimp [Tryz.f132,h5,h6,kidB]
 ·simp -dsimp [Tryz.f132,h5,kidB]
def partB (k:Int):Int×Int:=if leI k 6 then (1,1) else if leI k 8 then (1,2) else (2,2)
theorem f_partType (k:Int):fo 152 [A (vI k)]=some (R2 (vI (partB k).1) (vI (partB k).2)):=by
 refine orc_152 1 ?_
 cases h5:leI k 6
 ·cases h6:leI k 8
  ·simp -dsimp [Tryz.f152,h5,h6,partB]
  ·simp -dsimp [Tryz.f152,h5,h6,partB]
 ·simp -dsimp [Tryz.f152,h5,partB]
attribute [local simp] footOf noClash clash upsets setsHit setHits layHits layMeets setsMeet evFeet
def l3NodeM (n:Node) (i:Int):Int:=
 if notB (inR n.kind 1 10)=true then 1
 else if orB (orB (andB (leI n.kind 2) (orB (notB (eqI n.left 0)) (notB (eqI n.right 0)))) (andB (notB (leI n.kind 2)) (notB (eqI n.value 0)))) (andB (eqI n.kind 10) (notB (eqI n.right 0)))=true then 1
 else if orB (andB (eqI n.kind 1) (notB (inR n.value 0 9999))) (andB (eqI n.kind 2) (notB (inR n.value 0 3)))=true then 3
 else if orB (andB (notB (leI n.kind 2)) (notB (inR n.left 0 (i - 1)))) (andB (inR n.kind 3 9) (notB (inR n.right 0 (i - 1))))=true then 3
 else 0
theorem f_l3Node (n:Node) (i:Int) (hi:0≤i) (hi2:i<1000000):fo 144 [A (.ipt (nT n)),A (vI i)]=some (R (vI (l3NodeM n i))):=by
 have hw:IntKind.i64.wrap (i - 1)=i - 1:=by rw[wrapI]<;>omega
 refine orc_144 1 ?_
 simp (maxSteps:=1000000) +contextual -dsimp [Tryz.f144,f_l1In,f_l3Two,l3NodeM,hw]
def nodeFaultM (n:Node) (i:Int):Int:=
 if orB (eqI n.kind 1) (eqI n.kind 2)=true then
  first2 (if orB (notB (eqI n.left 0)) (notB (eqI n.right 0))=true then 1 else 0) (if notB (inR n.value 0 (if eqI n.kind 2=true then 3 else 9999))=true then 3 else 0)
 else if eqI n.kind 10=true then
  first2 (if orB (notB (eqI n.value 0)) (notB (eqI n.right 0))=true then 1 else 0) (if notB (inR n.left 0 (i - 1))=true then 3 else 0)
 else if inR n.kind 3 9=true then
  first2 (if notB (eqI n.value 0)=true then 1 else 0) (if orB (notB (inR n.left 0 (i - 1))) (notB (inR n.right 0 (i - 1)))=true then 3 else 0)
 else 1
theorem f_nodeFault (n:Node) (i:Int) (hi:0≤i) (hi2:i<1000000):fo 150 [A (.agg (nT n)),A (vI i)]=some (R (vI (nodeFaultM n i))):=by
 have hw:IntKind.i64.wrap (i - 1)=i - 1:=by rw[wrapI]<;>omega
 refine orc_150 1 ?_
 cases h2:eqI n.kind 2
 ·cases h1:eqI n.kind 1
  ·cases h2:eqI n.kind 10
   ·cases h3:inR n.kind 3 9
    ·simp (maxSteps:=1000000) +contextual -dsimp [Tryz.f150,f_isTwo,nodeFaultM, *]
    ·simp (maxSteps:=1000000) +contextual -dsimp [Tryz.f150,f_inRange,f_codeIf,f_isTwo,f_first2,nodeFaultM, *]
   ·simp (maxSteps:=1000000) +contextual -dsimp [Tryz.f150,f_inRange,f_codeIf,f_first2,nodeFaultM, *]
  ·simp (maxSteps:=1000000) +contextual -dsimp [Tryz.f150,f_inRange,f_codeIf,f_first2,nodeFaultM, *]
 ·simp (maxSteps:=1000000) +contextual -dsimp [Tryz.f150,f_inRange,f_codeIf,f_first2,nodeFaultM, *]
end Go.TM.It
namespace Go.TM.It
open Go Go.TM Go.Proofs
set_option maxRecDepth 20000
attribute [local congr] gif_cg
structure Fits (s:Step):Prop where
 name:s.name.size<2 ^ 62
 cond:s.cond.length<2 ^ 62
 expr:s.expr.length<2 ^ 62
theorem eqI_self (a:Int):eqI a a=true:=by simp[eqI]
def smalls (bs:List UInt8):Bool:=bs.all fun b=>inR b.toNat 97 122
theorem size_list (s:ByteArray):s.data.toList.length=s.size:=rfl
theorem byte_at {s:ByteArray} {i:Nat} {b:UInt8} {rest:List UInt8} (h:s.data.toList.drop i=b::rest):i<s.size∧s[i]?=some b∧s.data.toList.drop (i+1)=rest:=by
 obtain⟨h1,h2,h3⟩:=drop_cons h
 have h4:i<s.size:=by rw[←size_list];exact h1
 refine⟨h4,?_,h3⟩
 rw[getElem?_pos s i h4]
 simp only[ByteArray.getElem_eq_getElem_data]
 simpa using h2
theorem loop56 (s:ByteArray) (hs:s.size<2 ^ 62):∀ (rest:List UInt8) (i:Nat),s.data.toList.drop i=rest→
  evLoop E (orc E) (148:Nat) (rest.length+1) (loopOf Tryz.f148 0) ⟨18,[(0,vS s),(1,.v (.func (.func (149:Nat)) #[] #[])),(7,vI s.size),(8,vI i)],[],2⟩=
  (if smalls rest=true then some (.exit 0,⟨18,[(0,vS s),(1,.v (.func (.func (149:Nat)) #[] #[])),(7,vI s.size),(8,vI (i+rest.length:Nat)),(9,vB false)],[],2⟩) else some (.ret,⟨18,[(4,vB false)],[],2⟩))
 | [],i,h=>by
  have hge:s.size≤i:=by rw[←size_list];exact List.drop_eq_nil_iff.1 h
  have hlt:ltI (i:Int) (s.size:Int)=false:=ltI_f (by omega)
  rw[loop_eq]
  simp +contextual -dsimp [Tryz.f148,hlt,smalls]
 | b::rest,i,h=>by
  obtain⟨hi,hb,hr⟩:=byte_at h
  have hlt:ltI (i:Int) (s.size:Int)=true:=ltI_t (by omega)
  have hw:IntKind.i64.wrap ((i:Int)+1)=((i+1:Nat):Int):=by rw[wrapI]<;>omega
  have hx:=pr_idx s i b (by omega) (by simpa using hb)
  have g:=f_isSmall b.toNat
  cases c:inR b.toNat 97 122
  ·have hm:smalls (b::rest)=false:=by simp[smalls,c]
   rw[hm,if_neg (by simp)]
   refine evLoop_out ?_ (by simp)
   simp (maxSteps:=1000000) +contextual -dsimp [Tryz.f148,hlt,hx,g,c]
  ·have hm:smalls (b::rest)=smalls rest:=by simp[smalls,c]
   have ih:=loop56 s hs rest (i+1) hr
   have he:i+1+rest.length=i+(rest.length+1):=by omega
   rw[he] at ih
   rw[hm]
   refine evLoop_next ?_ (by simpa only[List.length_cons] using ih)
   simp (maxSteps:=1000000) +contextual -dsimp [Tryz.f148,hlt,hx,hw,g,c]
theorem f_areAllSmall (s:ByteArray) (hs:s.size<2 ^ 62):fo 148 [A (vS s),A (.v (.func (.func (149:Nat)) #[] #[]))]=some (R (vB (smalls s.data.toList))):=by
 have hlp:=loop56 s hs s.data.toList 0 rfl
 refine orc_148 (s.data.toList.length+1) ?_
 simp -dsimp [Tryz.f148] at hlp
 cases c:smalls s.data.toList
 ·simp (maxSteps:=1000000) +contextual -dsimp [Tryz.f148,hlp,c]
 ·simp (maxSteps:=1000000) +contextual -dsimp [Tryz.f148,hlp,c]
def nameM (s:ByteArray):Int:=first2 (if orB (eqS s emp) (notB (smalls s.data.toList))=true then 5 else 0) (if ltI 8 s.size=true then 2 else 0)
theorem f_NameFault (s:ByteArray) (hs:s.size<2 ^ 62):fo 130 [A (vS s)]=some (R (vI (nameM s))):=by
 have g:=f_areAllSmall s hs
 refine orc_130 1 ?_
 simp (maxSteps:=1000000) +contextual -dsimp [Tryz.f130,g,f_codeIf,f_first2,nameM]
attribute [local simp] footOf noClash clash upsets setsHit setHits layHits layMeets setsMeet evFeet
abbrev iE (l:List Int):List (List T):=l.map fun n=>[vI n]
abbrev pR (v h:Nat) (list deep:List Int):Root:=⟨v,h,true,[.own 2 (iE list),.own 2 (iE deep)]⟩
def climbM (list:List Int) (parent:Int):Nat→Int→Int
 | 0,up=>up
 | f+1,up=>if ltI parent up=true then climbM list parent f (list.getD up.toNat (-1)) else up
def Tree (list:List Int):Prop:=∀ (k:Nat) (h:k<list.length),-1≤list[k]∧list[k]<k
theorem loop45 (list deep:List Int) (parent:Int) (hp:-1≤parent) (ht:Tree list) (hl:list.length≤1000):∀ (f:Nat) (up:Int),up<f→up<list.length→
  evLoop E (orc E) (128:Nat) (f+1) (loopOf Tryz.f128 0) ⟨75,[(0,.ptr 0 0 [] 0),(1,vI parent),(6,vI up)],[(0,pR 0 1 list deep)],2⟩=
  some (.exit 0,⟨75,[(0,.ptr 0 0 [] 0),(1,vI parent),(6,vI (climbM list parent f up)),(34,vB false)],[(0,pR 0 1 list deep)],2⟩)
 | 0,up,h,h2=>by
  have hlt:ltI parent up=false:=ltI_f (by omega)
  rw[loop_eq]
  simp +contextual -dsimp [Tryz.f128,hlt,climbM]
 | f+1,up,h,h2=>by
  cases hlt:ltI parent up
  ·rw[loop_eq]
   simp +contextual -dsimp [Tryz.f128,hlt,climbM]
  ·have hlt':parent<up:=by simpa[ltI] using hlt
   obtain⟨k,rfl⟩:=Int.eq_ofNat_of_zero_le (show 0≤up by omega)
   have hk:k<list.length:=by omega
   obtain⟨t1,t2⟩:=ht k hk
   have ih:=loop45 list deep parent hp ht hl f list[k] (by omega) (by omega)
   have hm:climbM list parent (f+1) k=climbM list parent f list[k]:=by
    simp[climbM,hlt,hk]
   rw[hm]
   refine evLoop_next ?_ ih
   simp (maxSteps:=1000000) +contextual -dsimp [Tryz.f128,hlt,hk]
def nextBad (list:List Int) (parent:Int):Bool:=orB (andB (eqI list.length 0) (notB (eqI parent (-1)))) (andB (ltI 0 list.length) (notB (inR parent 0 (list.length - 1))))
def nextDeep (deep:List Int) (parent:Int):Int:=if leI 0 parent=true then deep.getD parent.toNat 0+1 else 1
def nextM (list deep:List Int) (parent:Int):Int×List Int×List Int:=
 if nextBad list parent=true then (3,list,deep)
 else if notB (eqI (climbM list parent list.length (list.length - 1)) parent)=true then (1,list,deep)
 else (0,list++[parent],deep++[nextDeep deep parent])
abbrev argP (list deep:List Int):Arg:=⟨.ptr 0 0 [] 0,some (pR 0 1 list deep)⟩
abbrev outP (list deep:List Int):List (Nat×List T):=[(0,[.own 2 (iE list),.own 2 (iE deep)])]
theorem f_next (list deep:List Int) (parent:Int) (hp1:-9223372036854775808≤parent) (hp2:parent<9223372036854775808) (ht:Tree list) (hl:list.length≤1000) (hd:deep.length=list.length)
  (hv:∀ d,d∈deep→0≤d∧d≤1000000):
  fo 128 [argP list deep,A (vI parent)]=some ⟨vI (nextM list deep parent).1,outP (nextM list deep parent).2.1 (nextM list deep parent).2.2,true⟩:=by
 have hw:IntKind.i64.wrap ((list.length:Int) - 1)=(list.length:Int) - 1:=by rw[wrapI]<;>omega
 have hm1:list.length+1≤maxElems:=by unfold maxElems;omega
 have hm2:deep.length+1≤maxElems:=by unfold maxElems;omega
 refine orc_128 (list.length+1) ?_
 cases c1:nextBad list parent
 ·have hpr:-1≤parent∧parent<list.length∧¬ (parent=-1∧0<list.length):=by
   simp only[nextBad,orB,andB,notB,eqI,ltI,inR,leI,Bool.or_eq_false_iff,Bool.and_eq_false_iff,Bool.not_eq_false',beq_eq_false_iff_ne,beq_iff_eq,decide_eq_false_iff_not,decide_eq_true_eq,Bool.and_eq_true] at c1
   omega
  obtain⟨p1,p2,p3⟩:=hpr
  have hlp:=loop45 list deep parent p1 ht hl list.length ((list.length:Int) - 1) (by omega) (by omega)
  simp -dsimp [Tryz.f128] at hlp
  cases c2:eqI (climbM list parent list.length (list.length - 1)) parent
  ·simp only[nextBad] at c1
   simp (maxSteps:=1000000) +contextual -dsimp [Tryz.f128,f_inRange,hw,hlp,c1,c2,nextM,nextBad]
  ·cases c3:leI 0 parent
   ·simp only[nextBad] at c1
    simp (maxSteps:=1000000) +contextual -dsimp [Tryz.f128,f_inRange,hw,hlp,c1,c2,c3,hm1,hm2,nextM,nextBad,nextDeep]
   ·simp only[nextBad] at c1
    have h0:0≤parent:=by simpa[leI] using c3
    obtain⟨k,rfl⟩:=Int.eq_ofNat_of_zero_le h0
    have hk:k<deep.length:=by omega
    have hb:=hv deep[k] (List.getElem_mem hk)
    have hw2:IntKind.i64.wrap (deep[k]+1)=deep[k]+1:=by rw[wrapI]<;>omega
    simp (maxSteps:=1000000) +contextual -dsimp [Tryz.f128,f_inRange,hw,hlp,c1,c2,c3,hm1,hm2,hk,hw2,nextM,nextBad,nextDeep]
 ·simp only[nextBad] at c1
  simp (maxSteps:=1000000) +contextual -dsimp [Tryz.f128,f_inRange,hw,c1,nextM,nextBad]
def nodesM:Nat→List Node→Int
 | _,[]=>0
 | i,n::r=>if notB (eqI (nodeFaultM n i) 0)=true then nodeFaultM n i else nodesM (i+1) r
theorem loop48a (all:List Node) (hall:all.length≤16):∀ (rest:List Node) (i:Nat),all.drop i=rest→
  evLoop E (orc E) (131:Nat) (rest.length+1) (loopOf Tryz.f131 0) ⟨112,[(0,nS 206 all),(16,nS 206 all),(17,vI all.length),(18,vI i)],[],2⟩=
  (if eqI (nodesM i rest) 0=true then some (.exit 0,⟨112,[(0,nS 206 all),(16,nS 206 all),(17,vI all.length),(18,vI (i+rest.length:Nat)),(19,vB false)],[],2⟩) else some (.ret,⟨112,[(2,vI (nodesM i rest))],[],2⟩))
 | [],i,h=>by
  have hge:all.length≤i:=by simpa using h
  have hlt:ltI (i:Int) (all.length:Int)=false:=ltI_f (by omega)
  rw[loop_eq]
  simp +contextual -dsimp [Tryz.f131,hlt,nodesM,eqI_self]
 | n::rest,i,h=>by
  obtain⟨hi,hc,hr⟩:=drop_cons h
  have hlt:ltI (i:Int) (all.length:Int)=true:=ltI_t (by omega)
  have hw:IntKind.i64.wrap ((i:Int)+1)=((i+1:Nat):Int):=by rw[wrapI]<;>omega
  have he:i+1+rest.length=i+(rest.length+1):=by omega
  have g:=f_nodeFault n i (by omega) (by omega)
  cases c:eqI (nodeFaultM n i) 0
  ·have hm:nodesM i (n::rest)=nodeFaultM n i:=by simp[nodesM,c,notB]
   rw[hm,c,if_neg (by simp)]
   refine evLoop_out ?_ (by simp)
   simp (maxSteps:=1000000) +contextual -dsimp [Tryz.f131,hlt,hi,hc,g,c,List.set]
  ·have ih:=loop48a all hall rest (i+1) hr
   rw[he] at ih
   have hm:nodesM i (n::rest)=nodesM (i+1) rest:=by simp[nodesM,c,notB]
   rw[hm]
   refine evLoop_next ?_ (by simpa only[List.length_cons] using ih)
   simp (maxSteps:=1000000) +contextual -dsimp [Tryz.f131,hlt,hi,hc,hw,g,c,List.set]
def okNode (n:Node) (i:Nat):Prop:=(eqI n.kind 10=true→0≤n.left∧n.left<i)∧(eqI n.kind 10=false→inR n.kind 3 9=true→0≤n.left∧n.left<i∧0≤n.right∧n.right<i)
def szAt (sizes:List Int) (k:Int):Int:=sizes.getD k.toNat 0
def wrongM (n:Node) (i:Int) (sizes:List Int) (wrong:Bool):Bool:=
 if eqI n.kind 10=true then orB wrong (notB (eqI n.left (i - 1)))
 else if inR n.kind 3 9=true then orB (orB wrong (notB (eqI n.right (i - 1)))) (notB (eqI n.left (i - 1 - szAt sizes n.right)))
 else wrong
def sizeM (n:Node) (sizes:List Int):Int:=
 if eqI n.kind 10=true then 1+szAt sizes n.left
 else if inR n.kind 3 9=true then 1+(szAt sizes n.left+szAt sizes n.right)
 else 1
def walkM:List Node→Nat→List Int→Bool→List Int×Bool
 | [],_,sizes,wrong=>(sizes,wrong)
 | n::r,i,sizes,wrong=>walkM r (i+1) (sizes++[sizeM n sizes]) (wrongM n i sizes wrong)
theorem szAt_bd {sizes:List Int} {B:Int} (hB:0≤B) (hb:∀ x,x∈sizes→0≤x∧x≤B) (k:Int):0≤szAt sizes k∧szAt sizes k≤B:=by
 unfold szAt
 rcases Nat.lt_or_ge k.toNat sizes.length with h | h
 ·rw[List.getD_eq_getElem?_getD,List.getElem?_eq_getElem h]
  exact hb _ (List.getElem_mem h)
 ·rw[List.getD_eq_getElem?_getD,List.getElem?_eq_none h]
  exact⟨Int.le_refl _,hB⟩
theorem loop48b (all:List Node) (hall:all.length≤16):∀ (rest:List Node) (i:Nat) (sizes:List Int) (wrong:Bool),all.drop i=rest→sizes.length=i→(∀ x,x∈sizes→0≤x∧x≤(4:Int) ^ i)→
  (∀ (k:Nat) (n:Node),rest[k]?=some n→okNode n (i+k))→
  evLoop E (orc E) (131:Nat) (rest.length+1) (loopOf Tryz.f131 1) ⟨112,[(0,nS 206 all),(6,.ref 6 1 [] 0 sizes.length),(7,vB wrong),(31,nS 206 all),(32,vI all.length),(33,vI i)],[(6,⟨1,1,false,[.own 2 (iE sizes)]⟩)],2⟩=
  some (.exit 2,⟨112,[(0,nS 206 all),(6,.ref 6 1 [] 0 (walkM rest i sizes wrong).1.length),(7,vB (walkM rest i sizes wrong).2),(31,nS 206 all),(32,vI all.length),(33,vI (i+rest.length:Nat)),(34,vB false)],[(6,⟨1,1,false,[.own 2 (iE (walkM rest i sizes wrong).1)]⟩)],2⟩)
 | [],i,sizes,wrong,h,hs,hb,ho=>by
  have hge:all.length≤i:=by simpa using h
  have hlt:ltI (i:Int) (all.length:Int)=false:=ltI_f (by omega)
  rw[loop_eq]
  simp +contextual -dsimp [Tryz.f131,hlt,walkM]
 | n::rest,i,sizes,wrong,h,hs,hb,ho=>by
  obtain⟨hi,hc,hr⟩:=drop_cons h
  have hlt:ltI (i:Int) (all.length:Int)=true:=ltI_t (by omega)
  have hw:IntKind.i64.wrap ((i:Int)+1)=((i+1:Nat):Int):=by rw[wrapI]<;>omega
  have hw1:IntKind.i64.wrap ((i:Int) - 1)=(i:Int) - 1:=by rw[wrapI]<;>omega
  have he:i+1+rest.length=i+(rest.length+1):=by omega
  have hm1:sizes.length+1≤maxElems:=by unfold maxElems;omega
  have hp:(4:Int) ^ i≤4294967296:=by
   have h1:=Nat.pow_le_pow_right (n:=4) (by omega) (show i≤16 by omega)
   have h2:((4:Int) ^ i)=((4 ^ i:Nat):Int):=by simp
   rw[h2];omega
  have hp0:(0:Int)<4 ^ i:=Int.pow_pos (by omega)
  have hp1:(4:Int) ^ (i+1)=4*4 ^ i:=by rw[Int.pow_succ];omega
  have bl:=szAt_bd (by omega) hb n.left
  have br:=szAt_bd (by omega) hb n.right
  obtain⟨o1,o2⟩:=ho 0 n (by simp)
  have hsz:0≤sizeM n sizes∧sizeM n sizes≤4 ^ (i+1):=by
   unfold sizeM
   rw[hp1]
   split
   ·omega
   ·split<;>omega
  have ih:=loop48b all hall rest (i+1) (sizes++[sizeM n sizes]) (wrongM n i sizes wrong) hr (by simp;omega) (fun x hx=>by
   rcases List.mem_append.1 hx with hx | hx
   ·have:=hb x hx;omega
   ·simp only[List.mem_singleton] at hx;subst hx;exact hsz) (fun k m hk=>by
   have:=ho (k+1) m (by simpa using hk)
   have e:i+1+k=i+(k+1):=by omega
   rw[e];exact this)
  rw[he] at ih
  refine evLoop_next ?_ (by simpa only[List.length_cons,walkM] using ih)
  cases c1:eqI n.kind 10
  ·cases c2:inR n.kind 3 9
   ·simp (maxSteps:=1000000) +contextual -dsimp [Tryz.f131,f_isTwo,hlt,hi,hc,hw,hw1,hm1,c1,c2,sizeM,wrongM,List.set]
   ·obtain⟨p1,p2,p3,p4⟩:=o2 c1 c2
    obtain⟨l,hl⟩:=Int.eq_ofNat_of_zero_le p1
    obtain⟨r,hr'⟩:=Int.eq_ofNat_of_zero_le p3
    have hl2:l<sizes.length:=by omega
    have hr2:r<sizes.length:=by omega
    have e1:szAt sizes (l:Int)=sizes[l]:=by simp[szAt,hl2]
    have e2:szAt sizes (r:Int)=sizes[r]:=by simp[szAt,hr2]
    rw[hl,e1] at bl
    rw[hr',e2] at br
    have w1:IntKind.i64.wrap (sizes[l]+sizes[r])=sizes[l]+sizes[r]:=by rw[wrapI]<;>omega
    have w2:IntKind.i64.wrap (1+(sizes[l]+sizes[r]))=1+(sizes[l]+sizes[r]):=by rw[wrapI]<;>omega
    have w3:IntKind.i64.wrap ((i:Int) - 1 - sizes[r])=(i:Int) - 1 - sizes[r]:=by rw[wrapI]<;>omega
    simp (maxSteps:=1000000) +contextual -dsimp [Tryz.f131,f_isTwo,hlt,hi,hc,hw,hw1,hm1,c1,c2,hl,hr',hl2,hr2,e1,e2,w1,w2,w3,sizeM,wrongM,List.set]
  ·obtain⟨p1,p2⟩:=o1 c1
   obtain⟨l,hl⟩:=Int.eq_ofNat_of_zero_le p1
   have hl2:l<sizes.length:=by omega
   have e1:szAt sizes (l:Int)=sizes[l]:=by simp[szAt,hl2]
   rw[hl,e1] at bl
   have w1:IntKind.i64.wrap (1+sizes[l])=1+sizes[l]:=by rw[wrapI]<;>omega
   simp (maxSteps:=1000000) +contextual -dsimp [Tryz.f131,hlt,hi,hc,hw,hw1,hm1,c1,hl,hl2,e1,w1,sizeM,wrongM,List.set]
theorem first2_zero {a b:Int} (h:first2 a b=0):a=0∧b=0:=by
 unfold first2 at h
 split at h
 ·rename_i c;simp[eqI] at c;exact⟨c,h⟩
 ·rename_i c;simp[eqI] at c;exact absurd h c
theorem nodeFault_ok {n:Node} {i:Nat} (h:nodeFaultM n i=0):okNode n i:=by
 unfold nodeFaultM at h
 refine⟨fun h10=>?_,fun h10 h39=>?_⟩
 ·have e:n.kind=10:=by simpa[eqI] using h10
  rw[if_neg (by simp[orB,eqI,e]),if_pos h10] at h
  have:=(first2_zero h).2
  split at this
  ·simp at this
  ·rename_i hc
   simp[notB,inR,andB,leI] at hc
   omega
 ·have e:3≤n.kind∧n.kind≤9:=by simpa[inR,andB,leI] using h39
  rw[if_neg (by simp[orB,eqI];omega),if_neg (by rw[h10];simp),if_pos h39] at h
  have:=(first2_zero h).2
  split at this
  ·simp at this
  ·rename_i hc
   simp[notB,inR,andB,leI,orB] at hc
   omega
theorem nodes_ok:∀ {l:List Node} {i:Nat},nodesM i l=0→∀ (k:Nat) (n:Node),l[k]?=some n→okNode n (i+k)
 | [],i,_,k,n,h=>by simp at h
 | x::l,i,hz,k,n,h=>by
  unfold nodesM at hz
  split at hz
  ·rename_i hc
   rw[hz] at hc;simp[notB,eqI] at hc
  ·rename_i hc
   have h0:nodeFaultM x i=0:=by simpa[notB,eqI] using hc
   cases k with
   | zero=>simp at h;subst h;exact nodeFault_ok h0
   | succ k=>
    have:=nodes_ok hz k n (by simpa using h)
    have e:i+1+k=i+(k+1):=by omega
    rw[←e];exact this
theorem walk_len:∀ (l:List Node) (i:Nat) (sizes:List Int) (w:Bool),(walkM l i sizes w).1.length=sizes.length+l.length
 | [],_,_,_=>by simp[walkM]
 | n::l,i,sizes,w=>by simp only[walkM];rw[walk_len];simp;omega
def exprM (l:List Node):Int:=
 if notB (inR l.length 1 16)=true then 2
 else if notB (eqI (nodesM 0 l) 0)=true then nodesM 0 l
 else if orB (walkM l 0 [] false).2 (notB (eqI (szAt (walkM l 0 [] false).1 (l.length - 1)) l.length))=true then 1 else 0
theorem f_ExprFault (l:List Node) (hl:l.length<2 ^ 62):fo 131 [A (nS 206 l)]=some (R (vI (exprM l))):=by
 cases c1:inR l.length 1 16
 ·refine orc_131 1 ?_
  simp (maxSteps:=1000000) +contextual -dsimp [Tryz.f131,f_inRange,c1,exprM]
 ·have hl2:1≤l.length∧l.length≤16:=by simp[inR,andB,leI] at c1;omega
  refine orc_131 (l.length+1) ?_
  have ha:=loop48a l hl2.2 l 0 rfl
  simp -dsimp [Tryz.f131] at ha
  cases c2:eqI (nodesM 0 l) 0
  ·rw[c2] at ha
   simp (maxSteps:=1000000) +contextual -dsimp [Tryz.f131,f_inRange,c1,c2,ha,exprM]
  ·have hb:=loop48b l hl2.2 l 0 [] false rfl rfl (by simp) (nodes_ok (by simpa[eqI] using c2))
   rw[c2] at ha
   simp -dsimp [Tryz.f131] at hb
   have hlen:=walk_len l 0 [] false
   simp at hlen
   have hlt:l.length - 1<(walkM l 0 [] false).1.length:=by omega
   have hw:IntKind.i64.wrap ((l.length:Int) - 1)=((l.length - 1:Nat):Int):=by rw[wrapI]<;>omega
   have e1:szAt (walkM l 0 [] false).1 ((l.length:Int) - 1)=(walkM l 0 [] false).1[l.length - 1]:=by
    have:((l.length:Int) - 1).toNat=l.length - 1:=by omega
    simp[szAt,this,hlt]
   simp (maxSteps:=1000000) +contextual -dsimp [Tryz.f131,f_inRange,f_codeIf,c1,c2,ha,hb,hw,hlt,e1,exprM]
def badT (n:Node) (types:List Int):Bool:=
 orB (andB (ltI 2 n.kind) (notB (eqI (szAt types n.left) (partB n.kind).1))) (andB (inR n.kind 3 9) (notB (eqI (szAt types n.right) (partB n.kind).1)))
def typesM:List Node→List Int→Bool×List Int
 | [],acc=>(true,acc)
 | n::r,acc=>if badT n acc=true then (false,acc) else typesM r (acc++[(partB n.kind).2])
abbrev res52 (a b:Int):Root:=⟨1,1,true,[vI a,vI b]⟩
theorem loop52 (all:List Node) (hall:all.length≤16):∀ (rest:List Node) (i:Nat) (acc:List Int),all.drop i=rest→acc.length=i→
    (∀ (k:Nat) (n:Node),rest[k]?=some n→ltI 2 n.kind=true→(0≤n.left∧n.left<(i+k:Nat))∧(inR n.kind 3 9=true→0≤n.right∧n.right<(i+k:Nat)))→
    evLoop E (orc E) (135:Nat) (rest.length+1) (loopOf Tryz.f135 0) ⟨67,[(2,.ptr 2 1 [] 0),(4,.ref 4 1 [] 0 acc.length),(16,nS 206 all),(17,vI all.length),(18,vI i)],[(2,res52 0 0),(4,⟨1,1,false,[.own 2 (iE acc)]⟩)],2⟩=
    (if (typesM rest acc).1 = true then some (.exit 0, ⟨67, [(2, .ptr 2 1 [] 0), (4, .ref 4 1 [] 0 (typesM rest acc).2.length), (16, nS 206 all), (17, vI all.length), (18, vI (i + rest.length : Nat)), (19, vB false)], [(2, res52 0 0), (4, ⟨1, 1, false, [.own 2 (iE (typesM rest acc).2)]⟩)], 2⟩)
     else some (.ret,⟨67,[(2,.ptr 2 1 [] 0)],[(2,res52 7 0),(4,⟨1,1,false,[.own 2 (iE (typesM rest acc).2)]⟩)],2⟩))
  | [],i,acc,h,hs,ho=>by
    have hge:all.length≤i:=by simpa using h
    have hlt:ltI (i:Int) (all.length:Int)=false:=ltI_f (by omega)
    rw[loop_eq]
    simp +contextual -dsimp [Tryz.f135,hlt,typesM]
  | n::rest,i,acc,h,hs,ho=>by
    obtain⟨hi,hc,hr⟩:=drop_cons h
    have hlt:ltI (i:Int) (all.length:Int)=true:=ltI_t (by omega)
    have hw:IntKind.i64.wrap ((i:Int)+1)=((i+1:Nat):Int):=by rw[wrapI]<;>omega
    have he:i+1+rest.length=i+(rest.length+1):=by omega
    have hm1:acc.length+1≤maxElems:=by unfold maxElems;omega
    have ih:=loop52 all hall rest (i+1) (acc++[(partB n.kind).2]) hr (by simp;omega) (fun k m hk=>by
      have:=ho (k+1) m (by simpa using hk)
      have e:i+1+k=i+(k+1):=by omega
      rw[e];exact this)
    rw[he] at ih
    have ho':=ho 0 n (by simp)
    have step:(badT n acc=false→evCode E (orc E) (135:Nat) (evLoop E (orc E) (135:Nat) (rest.length+1)) (loopOf Tryz.f135 0) ⟨67,[(2,.ptr 2 1 [] 0),(4,.ref 4 1 [] 0 acc.length),(16,nS 206 all),(17,vI all.length),(18,vI i)],[(2,res52 0 0),(4,⟨1,1,false,[.own 2 (iE acc)]⟩)],2⟩=
        some (.normal,⟨67,[(2,.ptr 2 1 [] 0),(4,.ref 4 1 [] 0 (acc++[(partB n.kind).2]).length),(16,nS 206 all),(17,vI all.length),(18,vI (i+1:Nat))],[(2,res52 0 0),(4,⟨1,1,false,[.own 2 (iE (acc++[(partB n.kind).2]))]⟩)],2⟩))∧
        (badT n acc=true→evCode E (orc E) (135:Nat) (evLoop E (orc E) (135:Nat) (rest.length+1)) (loopOf Tryz.f135 0) ⟨67,[(2,.ptr 2 1 [] 0),(4,.ref 4 1 [] 0 acc.length),(16,nS 206 all),(17,vI all.length),(18,vI i)],[(2,res52 0 0),(4,⟨1,1,false,[.own 2 (iE acc)]⟩)],2⟩=
        some (.ret,⟨67,[(2,.ptr 2 1 [] 0)],[(2,res52 7 0),(4,⟨1,1,false,[.own 2 (iE acc)]⟩)],2⟩)):=by
      unfold badT
      cases c1:ltI 2 n.kind
      · have c2 : inR n.kind 3 9 = false := by simp [ltI, inR, andB, leI] at c1 ⊢; omega
        refine⟨fun _=>?_,fun hb=>by rw[c2] at hb;simp[orB,andB] at hb⟩
        simp (maxSteps:=1000000) +contextual -dsimp [Tryz.f135,f_isTwo,f_partType,hlt,hi,hc,hw,hm1,c1,c2,List.set]
      · obtain ⟨⟨p1, p2⟩, p3⟩ := ho' c1
        obtain⟨l,hl⟩:=Int.eq_ofNat_of_zero_le p1
        have hl2:l<acc.length:=by omega
        have e1:szAt acc (l:Int)=acc[l]:=by simp[szAt,hl2]
        rw[hl,e1]
        cases c2:inR n.kind 3 9
        · refine ⟨fun hb => ?_, fun hb => ?_⟩
          all_goals
            simp only[andB_tl,andB_fl,orB_fr] at hb
            simp (maxSteps:=1000000) +contextual -dsimp [Tryz.f135,f_isTwo,f_partType,hlt,hi,hc,hw,hm1,c1,c2,hl,hl2,hb,List.set]
        · obtain ⟨p4, p5⟩ := p3 c2
          obtain⟨r,hr'⟩:=Int.eq_ofNat_of_zero_le p4
          have hr2:r<acc.length:=by omega
          have e2:szAt acc (r:Int)=acc[r]:=by simp[szAt,hr2]
          rw[hr',e2]
          refine⟨fun hb=>?_,fun hb=>?_⟩
          all_goals
            simp only[andB_tl] at hb
            simp (maxSteps:=1000000) +contextual -dsimp [Tryz.f135,f_isTwo,f_partType,hlt,hi,hc,hw,hm1,c1,c2,hl,hl2,hr',hr2,hb,List.set]
    cases cb:badT n acc
    · have hm : typesM (n :: rest) acc = typesM rest (acc ++ [(partB n.kind).2]) := by simp [typesM, cb]
      rw[hm]
      exact evLoop_next (step.1 cb) (by simpa only[List.length_cons] using ih)
    · have hm : typesM (n :: rest) acc = (false, acc) := by simp [typesM, cb]
      rw[hm,if_neg (by simp)]
      exact evLoop_out (step.2 cb) (by simp)
theorem types_len:∀ (l:List Node) (acc:List Int),(typesM l acc).1=true→(typesM l acc).2.length=acc.length+l.length
 | [],acc,_=>by simp[typesM]
 | n::l,acc,h=>by
  unfold typesM at h ⊢
  split at h
  ·simp at h
  ·rename_i hc
   rw[if_neg hc]
   rw[types_len l _ h];simp;omega
abbrev RI (c v:Int):Res:=⟨.agg [vI c,vI v],[],true⟩
def typeM (l:List Node):Int×Int:=
 if notB (eqI (exprM l) 0)=true then (exprM l,0)
 else if (typesM l []).1=true then (0,szAt (typesM l []).2 (l.length - 1)) else (7,0)
theorem okNode_types {n:Node} {i:Nat} (h:okNode n i) (hk:nodeFaultM n i=0) (h2:ltI 2 n.kind=true):(0≤n.left∧n.left<(i:Nat))∧(inR n.kind 3 9=true→0≤n.right∧n.right<(i:Nat)):=by
 obtain⟨h10,h39⟩:=h
 have g2:2<n.kind:=by simpa[ltI] using h2
 by_cases e10:n.kind=10
 ·have a:=h10 (by simp[eqI,e10])
  exact⟨a,fun hc=>by simp[inR,andB,leI] at hc;omega⟩
 ·have f10:eqI n.kind 10=false:=by simp[eqI,e10]
  by_cases e39:inR n.kind 3 9=true
  ·obtain⟨a,b,c,d⟩:=h39 f10 e39
   exact⟨⟨a,b⟩,fun _=>⟨c,d⟩⟩
  ·exfalso
   unfold nodeFaultM at hk
   rw[if_neg (by simp[orB,eqI];omega),if_neg (by rw[f10];simp),if_neg e39] at hk
   simp at hk
theorem nodes_all:∀ {l:List Node} {i:Nat},nodesM i l=0→∀ (k:Nat) (n:Node),l[k]?=some n→nodeFaultM n (i+k:Nat)=0
 | [],i,_,k,n,h=>by simp at h
 | x::l,i,hz,k,n,h=>by
  unfold nodesM at hz
  split at hz
  ·rename_i hc
   rw[hz] at hc;simp[notB,eqI] at hc
  ·rename_i hc
   have h0:nodeFaultM x i=0:=by simpa[notB,eqI] using hc
   cases k with
   | zero=>simp at h;subst h;exact h0
   | succ k=>
    have:=nodes_all hz k n (by simpa using h)
    have e:i+1+k=i+(k+1):=by omega
    rw[←e];exact this
theorem expr_zero {l:List Node} (h:exprM l=0):1≤l.length∧l.length≤16∧nodesM 0 l=0:=by
 unfold exprM at h
 split at h
 ·simp at h
 ·rename_i c1
  split at h
  ·rename_i c2;rw[h] at c2;simp[notB,eqI] at c2
  ·rename_i c2
   simp[notB,inR,andB,leI] at c1
   simp[notB,eqI] at c2
   omega
theorem f_TypeOf (l:List Node) (hl:l.length<2 ^ 62):fo 135 [A (nS 206 l)]=some (RI (typeM l).1 (typeM l).2):=by
 have g:=f_ExprFault l hl
 cases c1:eqI (exprM l) 0
 ·refine orc_135 1 ?_
  simp (maxSteps:=1000000) +contextual -dsimp [Tryz.f135,g,c1,typeM,List.set]
 ·obtain⟨h1,h2,h3⟩:=expr_zero (by simpa[eqI] using c1)
  have e0:exprM l=0:=by simpa[eqI] using c1
  have hlp:=loop52 l h2 l 0 [] rfl rfl (fun k n hk h2=>by
   simpa using okNode_types (nodes_ok h3 k n hk) (nodes_all h3 k n hk) h2)
  refine orc_135 (l.length+1) ?_
  simp -dsimp [Tryz.f135] at hlp
  cases c2:(typesM l []).1
  ·rw[c2] at hlp
   simp (maxSteps:=1000000) +contextual -dsimp [Tryz.f135,g,e0,c2,hlp,typeM,eqI_self,List.set]
  ·rw[c2] at hlp
   have hlen:=types_len l [] c2
   simp at hlen
   have hlt:l.length - 1<(typesM l []).2.length:=by omega
   have hlt2:l.length - 1<l.length:=by omega
   have hw:IntKind.i64.wrap ((l.length:Int) - 1)=((l.length - 1:Nat):Int):=by rw[wrapI]<;>omega
   have e1:szAt (typesM l []).2 ((l.length:Int) - 1)=(typesM l []).2[l.length - 1]:=by
    have:((l.length:Int) - 1).toNat=l.length - 1:=by omega
    simp[szAt,this,hlt]
   simp (maxSteps:=1000000) +contextual -dsimp [Tryz.f135,g,e0,c2,hlp,hlen,hw,hlt2,e1,typeM,eqI_self,List.set]
end Go.TM.It
