/- What functions of the program come to, by the machine. -/
import Derived.Test.YtbpdikmponmmpaaDoorKE
import Derived.Lib.Split
import Derived.Lib.SplitLaws
set_option linter.unusedSimpArgs false
set_option linter.unusedVariables false
set_option maxHeartbeats 4000000
namespace Go.TM.Dw
open Go Go.TM Go.Proofs
set_option maxRecDepth 20000
abbrev vI (n:Int):T:=.v (.int .i64 n)
abbrev vB (b:Bool):T:=.v (.bool b)
abbrev vS (s:ByteArray):T:=.v (.string s)
abbrev A (t:T):Arg:=⟨t,none⟩
abbrev R (t:T):Res:=⟨t,[],true⟩
def eqI (a b:Int):Bool:=a==b
def leI (a b:Int):Bool:=decide (a≤b)
def ltI (a b:Int):Bool:=decide (a<b)
def eqB (a b:Bool):Bool:=a==b
def eqS (a b:ByteArray):Bool:=a.toList==b.toList
theorem eqI_t {a b:Int} (h:a=b):eqI a b=true:=by simp[eqI,h]
theorem eqI_f {a b:Int} (h:a≠b):eqI a b=false:=by simp[eqI,h]
theorem leI_t {a b:Int} (h:a≤b):leI a b=true:=by simp[leI,h]
theorem leI_f {a b:Int} (h:¬ a≤b):leI a b=false:=by simp[leI];omega
theorem ltI_t {a b:Int} (h:a<b):ltI a b=true:=by simp[ltI,h]
theorem ltI_f {a b:Int} (h:¬ a<b):ltI a b=false:=by simp[ltI];omega
theorem eqS_self (a:ByteArray):eqS a a=true:=by simp[eqS]
section pr
variable (P:Program) (t:TypeId) (x y:Operand)
theorem pr_leq (k:IntKind) (a b:Int):pureRun P (do eqGuard .leq t x y (.int k a) (.int k b);binOp .leq t (.int k a) (.int k b))=some (.bool (leI a b)):=by cases k<;>rfl
theorem pr_lss (k:IntKind) (a b:Int):pureRun P (do eqGuard .lss t x y (.int k a) (.int k b);binOp .lss t (.int k a) (.int k b))=some (.bool (ltI a b)):=by cases k<;>rfl
theorem pr_gtr (k:IntKind) (a b:Int):pureRun P (do eqGuard .gtr t x y (.int k a) (.int k b);binOp .gtr t (.int k a) (.int k b))=some (.bool (ltI b a)):=by cases k<;>rfl
theorem pr_geq (k:IntKind) (a b:Int):pureRun P (do eqGuard .geq t x y (.int k a) (.int k b);binOp .geq t (.int k a) (.int k b))=some (.bool (leI b a)):=by cases k<;>rfl
theorem pr_eql (k:IntKind) (a b:Int):pureRun P (do eqGuard .eql t x y (.int k a) (.int k b);binOp .eql t (.int k a) (.int k b))=some (.bool (eqI a b)):=by cases k<;>rfl
theorem pr_neq (k:IntKind) (a b:Int):pureRun P (do eqGuard .neq t x y (.int k a) (.int k b);binOp .neq t (.int k a) (.int k b))=some (.bool (notB (eqI a b))):=by cases k<;>rfl
theorem pr_add (k:IntKind) (a b:Int):pureRun P (do eqGuard .add t x y (.int k a) (.int k b);binOp .add t (.int k a) (.int k b))=some (.int k (k.wrap (a+b))):=by cases k<;>rfl
theorem pr_sub (k:IntKind) (a b:Int):pureRun P (do eqGuard .sub t x y (.int k a) (.int k b);binOp .sub t (.int k a) (.int k b))=some (.int k (k.wrap (a - b))):=by cases k<;>rfl
theorem pr_eqlB (a b:Bool):pureRun Tryd.prog (do eqGuard .eql 4 x y (.bool a) (.bool b);binOp .eql 4 (.bool a) (.bool b))=some (.bool (eqB a b)):=by kernel_rfl
theorem pr_neqB (a b:Bool):pureRun Tryd.prog (do eqGuard .neq 4 x y (.bool a) (.bool b);binOp .neq 4 (.bool a) (.bool b))=some (.bool (notB (eqB a b))):=by kernel_rfl
theorem pr_eqlS (a b:ByteArray):pureRun P (do eqGuard .eql t x y (.string a) (.string b);binOp .eql t (.string a) (.string b))=some (.bool (eqS a b)):=rfl
theorem pr_neqS (a b:ByteArray):pureRun P (do eqGuard .neq t x y (.string a) (.string b);binOp .neq t (.string a) (.string b))=some (.bool (notB (eqS a b))):=rfl
theorem pr_idx (s:ByteArray) (i:Int) (b:UInt8) (h:0≤i) (hb:s[i.toNat]?=some b):pureRun Tryd.prog (Instr.index 9 (.string s) (.int .i64 i))=some (.int .u8 b.toNat):=by
 have h1:Tryd.prog.underlying 9=some .string:=by kernel_rfl
 simp[Instr.index,asIntOf,underlying,program,pureRun,Sem.bind,Bind.bind,Pure.pure,h1,h,hb]
theorem pr_lenS (s:ByteArray):pureRun Tryd.prog (Builtin.len_ #[9] t #[.string s])=some (.int .i64 s.size):=by kernel_rfl
theorem pr_not (a:Bool):pureRun P (Op.unary .not (.bool a))=some (.bool (notB a)):=rfl
end pr
attribute [simp] boxOut del body_eq code_seq code_block code_skip code_ret code_exit code_loop code_cond code_region thenC_normal thenC_ret thenC_exit thenC_none outB_normal outB_ret outB_exit outB_none endB_normal endB_ret thenC_ite thenC_ite' outB_ite outB_ite' endB_ite endB_ite' nextL_normal nextL_ret nextL_exit nextL_ite nextL_ite' ite_Res evRegion evOps evOne wanted initFr initRt evOp Rd.of Rd.bind Rd.run Rd.touched St.val lk up toVal plainEff St.apply setsOk setsApart apartFrom newOk setCells setCell strike unspent spent only reFr reRt reX re1 re0 stampOf isDead finish resTop resAll resOne closeT closeL close1 outsOf tupled clean cleanL cleanEs nilOf
 E_P callEff0 lends finishX sealP reP notNil hvOf nxt pr_leq pr_lss pr_gtr pr_geq pr_eql pr_neq pr_add pr_sub pr_not pr_eqlB pr_neqB pr_eqlS pr_neqS pr_lenS clrT evClear clearOf plainCell callEff callEff1 viewOf viewT viewable viewEff far isN callFar farArgs placeN rowN putN mkArgs mkArg seal2 seal1 seal0 sealCells distinct comeBack sealRes seal_ sealL sealEs Eff.with
 ite_T ite_vint ite_some' orB_tr orB_fr andB_tr andB_fr orB_tl orB_fl andB_tl andB_fl notB_t notB_f notB_notB gif_t gif_f gif_same gif_and gif_some gif_Eff gif_T eqW_t eqW_f wantV_bool' wantV_undef' wantV_gif gif_bf pif_t pif_f pickT_v pick_or pick_or2 pick_or2a pick_and pick_and2 pick_and4 pick_and5 pick_or3 pick_and3
 globOf content rdPlace rdCells rdRow splice setRow wrRow takeRef inline1 inlineL inlineR deepOf deep1 anyDeep takes descend graft view1 viewFrom closed1 flat1 tupView tupCells bare rooted boundOf cap1 one1 srcOf dstOf stamp fillParts fillElems partCells zeroAt evBuildParts evElems lentRow Root.at_ newOk
 loopOf loopsC evOpsK pause without args sliceLen valsOf oneVal intArg loadT cell1 anyOwn isOwn T.cells
attribute [local congr] gif_cg
attribute [local simp] footOf noClash clash upsets setsHit setHits layHits layMeets setsMeet evFeet
abbrev wT (s:ByteArray):List T:=[vS s]
section
variable (P:Program) (t:TypeId) (x y:Operand)
theorem pr_cvt (a:Int):pureRun Tryd.prog (convert 3 5 (.int .i64 a))=some (.int .u8 (IntKind.u8.wrap a)):=by kernel_rfl
theorem pr_u8:pureRun Tryd.prog (isU8Slice 56 9)=some true:=by kernel_rfl
theorem pr_quoX (a b:Int) (h:b≠0):pureRun P (do eqGuard .quo t x y (.int .i64 a) (.int .i64 b);binOp .quo t (.int .i64 a) (.int .i64 b))=some (.int .i64 (IntKind.i64.wrap (Int.tdiv a b))):=by
 unfold binOp
 simp[eqGuard,h,Op.intDiv]
 rfl
theorem pr_rem10 (a:Int):pureRun P (do eqGuard .rem t x y (.int .i64 a) (.int .i64 10);binOp .rem t (.int .i64 a) (.int .i64 10))=some (.int .i64 (Int.tmod a 10)):=rfl
theorem pr_quo10 (a:Int):pureRun P (do eqGuard .quo t x y (.int .i64 a) (.int .i64 10);binOp .quo t (.int .i64 a) (.int .i64 10))=some (.int .i64 (IntKind.i64.wrap (Int.tdiv a 10))):=pr_quoX P t x y a 10 (by omega)
theorem pr_addS (a b:ByteArray) (h:a.size+b.size<2 ^ 62):pureRun P (do eqGuard .add t x y (.string a) (.string b);binOp .add t (.string a) (.string b))=some (.string (a++b)):=by
 have e:¬ (((a.size+b.size:Nat):Int) > IntKind.i64.max):=by
  have:IntKind.i64.max=9223372036854775807:=rfl
  rw[this];omega
 unfold binOp
 simp only[eqGuard,Op.stringOp,if_neg e]
 rfl
end
theorem eqI_self (a:Int):eqI a a=true:=eqI_t rfl
theorem lp25:∀ (f:Nat) (k:Int) (out:ByteArray),0≤k→k<10 ^ f→k<2 ^ 61→out.size+f≤100→
  ∃ s:ByteArray,s.size≤100∧evLoop E (orc E) (25:Nat) (f+1) (loopOf Tryd.f25 0) ⟨20,[(0,vI k),(3,vS out)],[],2⟩=some (.exit 0,⟨20,[(0,vI 0),(3,vS s),(7,vB false)],[],2⟩)
 | f,k,out,h0,h1,h2,h3=>by
  rcases Int.lt_or_eq_of_le h0 with hk | hk
  ·match f with
   | 0=>simp at h1;omega
   | f+1=>
    have hlt:ltI 0 k=true:=ltI_t hk
    have hm0:0≤k.tmod 10:=Int.tmod_nonneg _ h0
    have hm1:k.tmod 10<10:=Int.tmod_lt_of_pos _ (by omega)
    have w:IntKind.i64.wrap (48+k.tmod 10)=48+k.tmod 10:=by rw[wrapI]<;>omega
    have ed:k.tdiv 10=k / 10:=Int.tdiv_eq_ediv_of_nonneg h0
    have hd0:0≤k.tdiv 10:=by rw[ed];omega
    have hd1:k.tdiv 10<10 ^ f:=by rw[ed];rw[Int.pow_succ] at h1;omega
    have hd2:k.tdiv 10<2 ^ 61:=by rw[ed];omega
    have w2:IntKind.i64.wrap (k.tdiv 10)=k.tdiv 10:=by rw[wrapI]<;>omega
    obtain⟨b,w3⟩:∃ b,IntKind.u8.wrap (48+k.tmod 10)=b:=⟨_,rfl⟩
    have hs:(⟨#[UInt8.ofNat b.toNat]⟩:ByteArray).size=1:=rfl
    have hsz:((⟨#[UInt8.ofNat b.toNat]⟩:ByteArray)++out).size=1+out.size:=by rw[ByteArray.size_append,hs]
    obtain⟨s,g1,g2⟩:=lp25 f (k.tdiv 10) (⟨#[UInt8.ofNat b.toNat]⟩++out) hd0 hd1 hd2 (by rw[hsz];omega)
    have p1:=pr_rem10 Tryd.prog 3 (.tmp 8) (.const (.int .i64 10)) k
    have p2:=pr_quo10 Tryd.prog 3 (.tmp 16) (.const (.int .i64 10)) k
    have p3:=pr_addS Tryd.prog 9 (.tmp 13) (.tmp 14) ⟨#[UInt8.ofNat b.toNat]⟩ out (by rw[hs];omega)
    refine⟨s,g1,evLoop_next ?_ g2⟩
    generalize (⟨#[UInt8.ofNat b.toNat]⟩:ByteArray)++out=out' at *
    generalize k.tdiv 10=d at *
    simp (maxSteps:=1000000) +contextual -dsimp [Tryd.f25,hlt,p1,p2,p3,pr_cvt,pr_u8,w,w2,w3,bytesOfT,List.set]
  ·subst hk
   have hlt:ltI 0 0=false:=rfl
   refine⟨out,by omega,evLoop_out ?_ (by simp)⟩
   simp (maxSteps:=1000000) +contextual -dsimp [Tryd.f25,hlt,List.set]
theorem markText_ex (k:Int) (h0:0≤k) (h1:k<2 ^ 61):∃ s:ByteArray,fo 25 [A (vI k)]=some (R (vS s)):=by
 cases q:leI k 0
 ·obtain⟨s,h2,h3⟩:=lp25 20 k ⟨#[]⟩ h0 (by omega) h1 (by show 0+20≤100;omega)
  have hs:(⟨#[109]⟩:ByteArray).size=1:=rfl
  have p3:=pr_addS Tryd.prog 9 (.const (.string ⟨#[109]⟩)) (.tmp 18) ⟨#[109]⟩ s (by rw[hs];omega)
  refine⟨⟨#[109]⟩++s,orc_25 21 ?_⟩
  simp -dsimp [Tryd.f25] at h3
  simp (maxSteps:=1000000) +contextual -dsimp [Tryd.f25,q,h3,p3,List.set]
 ·refine⟨⟨#[109,48]⟩,orc_25 1 ?_⟩
  simp (maxSteps:=1000000) +contextual -dsimp [Tryd.f25,q,List.set]
open Classical in
noncomputable def mkTx (k:Int):ByteArray:=if h:∃ s:ByteArray,fo 25 [A (vI k)]=some (R (vS s)) then Classical.choose h else ⟨#[]⟩
theorem o_markText (k:Int) (h0:0≤k) (h1:k<2 ^ 61):fo 25 [A (vI k)]=some (R (vS (mkTx k))):=by
 have h:=markText_ex k h0 h1
 unfold mkTx
 rw[dif_pos h]
 exact Classical.choose_spec h
theorem leqW (all:List ByteArray) (hall:all.length≤2097152):∀ (rest:List ByteArray) (i:Nat),all.drop i=rest→
  evLoop E (orc E) (18:Nat) (rest.length+1) (loopOf Tryd.f18 0) ⟨26,[(0,.sl 9 (all.map wT)),(1,.sl 9 (all.map wT)),(5,vI i)],[],2⟩=
  some (.exit 0,⟨26,[(0,.sl 9 (all.map wT)),(1,.sl 9 (all.map wT)),(5,vI (i+rest.length:Nat)),(14,vB false)],[],2⟩)
 | [],i,h=>by
  have hge:all.length≤i:=by simpa using h
  have hlt:ltI (i:Int) (all.length:Int)=false:=ltI_f (by omega)
  rw[loop_eq]
  simp +contextual -dsimp [Tryd.f18,hlt]
 | x::rest,i,h=>by
  obtain⟨hi,hc,hr⟩:=drop_cons h
  have hlt:ltI (i:Int) (all.length:Int)=true:=ltI_t (by omega)
  have hw:IntKind.i64.wrap ((i:Int)+1)=((i+1:Nat):Int):=by rw[wrapI]<;>omega
  have ih:=leqW all hall rest (i+1) hr
  have he:i+1+rest.length=i+(rest.length+1):=by omega
  rw[he] at ih
  refine evLoop_next ?_ (by simpa only[List.length_cons] using ih)
  simp (maxSteps:=1000000) +contextual -dsimp [Tryd.f18,hlt,hi,hc,hw,eqS_self]
theorem g_eqW (l:List ByteArray) (hl:l.length≤2097152):fo 18 [A (.sl 9 (l.map wT)),A (.sl 9 (l.map wT))]=some (R (vB true)):=by
 have hlp:=leqW l hl l 0 rfl
 refine orc_18 (l.length+1) ?_
 simp -dsimp [Tryd.f18] at hlp
 simp (maxSteps:=1000000) +contextual -dsimp [Tryd.f18,hlp,eqI_self]
theorem osealed_W (l:List ByteArray):sealEs (l.map wT)=l.map wT:=sealEs_map (f:=wT) (g:=wT) (fun a=>by simp[sealL,seal_]) l
theorem oclean_W (l:List ByteArray):cleanEs (l.map wT)=true:=by
 induction l with
 | nil=>rfl
 | cons x l ih=>simp only[List.map_cons,cleanEs,ih,Bool.and_true];simp[cleanL,clean]
noncomputable def mksW:Int→List ByteArray→List ByteArray
 | _,[]=>[]
 | k,_::r=>mkTx k::mksW (k+1) r
theorem mksW_len:∀ (k:Int) (l:List ByteArray),(mksW k l).length=l.length
 | _,[]=>rfl
 | k,_::r=>by simp only[mksW,List.length_cons,mksW_len]
theorem lmkW (n:Nat) (hn:n≤2097152):∀ (rest:List ByteArray) (i:Nat) (es:List (List T)) (k:Int),es.length=n→i+rest.length=n→es.drop i=rest.map wT→0≤k→k+(rest.length:Nat)<2 ^ 60→
  evLoop E (orc E) (19:Nat) (rest.length+1) (loopOf Tryd.f19 0) ⟨20,[(0,.ref 0 0 [] 0 n),(1,vI k),(5,vI i)],[(0,⟨0,0,false,[.own 9 es]⟩)],2⟩=
  some (.exit 0,⟨20,[(0,.ref 0 0 [] 0 n),(1,vI (k+(rest.length:Nat))),(5,vI (n:Nat)),(9,vB false)],[(0,⟨0,0,false,[.own 9 (es.take i++(mksW k rest).map wT)]⟩)],2⟩)
 | [],i,es,k,hl,hi,h,h0,h1=>by
  have e:i=n:=by simpa using hi
  subst e
  have hlt:ltI (i:Int) (i:Int)=false:=ltI_f (by omega)
  have ht:es.take i=es:=List.take_of_length_le (by omega)
  rw[loop_eq]
  simp +contextual -dsimp [Tryd.f19,hlt,ht,mksW]
 | x::rest,i,es,k,hl,hi,h,h0,h1=>by
  simp only[List.length_cons] at hi h1
  have hin:i<n:=by omega
  have hi2:i<es.length:=by omega
  have hlt:ltI (i:Int) (n:Int)=true:=ltI_t (by omega)
  have hw:IntKind.i64.wrap ((i:Int)+1)=((i+1:Nat):Int):=by rw[wrapI]<;>omega
  have hd:=List.drop_eq_getElem_cons hi2
  rw[h,List.map_cons,List.cons.injEq] at hd
  obtain⟨hz1,hr⟩:=hd
  have hz1:=hz1.symm
  obtain⟨k1,e1⟩:∃ z,z=k+1:=⟨_,rfl⟩
  have w0:IntKind.i64.wrap (k+1)=k1:=by rw[e1,wrapI]<;>omega
  have g:=o_markText k h0 (by omega)
  have hk:k1+(rest.length:Nat)=k+((x::rest).length:Nat):=by rw[List.length_cons];omega
  have hm:mksW k (x::rest)=mkTx k::mksW k1 rest:=by rw[e1];rfl
  have ih:=lmkW n hn rest (i+1) (es.set i (wT (mkTx k))) k1 (by simpa using hl) (by omega) (by rw[List.drop_set_of_lt (by omega)];exact hr.symm) (by omega) (by omega)
  have hes:(es.set i (wT (mkTx k))).take (i+1)=es.take i++[wT (mkTx k)]:=by
   rw[List.take_add_one,List.take_set_of_le (Nat.le_refl _)]
   simp[hi2]
  rw[hk,hes,List.append_assoc] at ih
  rw[hm]
  refine evLoop_next ?_ (by simpa only[List.length_cons,List.map_cons,List.singleton_append] using ih)
  simp (maxSteps:=1000000) +contextual -dsimp [Tryd.f19,hlt,hi2,hin,hw,hz1,hl,w0,g,List.set]
theorem o_markW (l:List ByteArray) (k:Int) (h0:0≤k) (h1:k+(l.length:Nat)<2 ^ 60) (hn:l.length≤2097152):∃ b,fo 19 [⟨.ref 0 0 [] 0 l.length,some ⟨0,0,false,[.own 9 (l.map wT)]⟩⟩,A (vI k)]=some ⟨vI (k+(l.length:Nat)),[(0,[.own 9 ((mksW k l).map wT)])],b⟩:=by
 have hlp:=lmkW l.length hn l 0 (l.map wT) k (by simp) (by simp) rfl h0 (by omega)
 refine⟨true,orc_19 (l.length+1) ?_⟩
 generalize k+(l.length:Int)=k' at *
 generalize mksW k l=l' at *
 simp -dsimp [Tryd.f19] at hlp
 simp (maxSteps:=1000000) +contextual -dsimp [Tryd.f19,hlp,finishL,mergeL,List.set]
theorem lhdW (all:List ByteArray) (hall:all.length≤2097152):∀ (rest:List ByteArray) (i:Nat) (k:Int),all.drop i=mksW k rest→0≤k→k+(rest.length:Nat)<2 ^ 60→
  evLoop E (orc E) (22:Nat) (rest.length+1) (loopOf Tryd.f22 0) ⟨22,[(0,.sl 9 (all.map wT)),(1,vI k),(5,vI i)],[],2⟩=
  some (.exit 0,⟨22,[(0,.sl 9 (all.map wT)),(1,vI (k+(rest.length:Nat))),(5,vI (i+rest.length:Nat)),(9,vB false)],[],2⟩)
 | [],i,k,h,h0,h1=>by
  have hge:all.length≤i:=by simpa[mksW] using h
  have hlt:ltI (i:Int) (all.length:Int)=false:=ltI_f (by omega)
  rw[loop_eq]
  simp +contextual -dsimp [Tryd.f22,hlt]
 | x::rest,i,k,h,h0,h1=>by
  rw[List.length_cons] at h1
  have he:i+1+rest.length=i+(rest.length+1):=by omega
  obtain⟨k1,e1⟩:∃ z,z=k+1:=⟨_,rfl⟩
  have w0:IntKind.i64.wrap (k+1)=k1:=by rw[e1,wrapI]<;>omega
  have hk:k1+(rest.length:Nat)=k+((x::rest).length:Nat):=by rw[List.length_cons];omega
  have hm:mksW k (x::rest)=mkTx k::mksW k1 rest:=by rw[e1];rfl
  rw[hm] at h
  obtain⟨hi,hc,hr⟩:=drop_cons h
  have g:=o_markText k h0 (by omega)
  have hlt:ltI (i:Int) (all.length:Int)=true:=ltI_t (by omega)
  have hw:IntKind.i64.wrap ((i:Int)+1)=((i+1:Nat):Int):=by rw[wrapI]<;>omega
  have ih:=lhdW all hall rest (i+1) k1 hr (by omega) (by omega)
  rw[hk,he] at ih
  refine evLoop_next ?_ (by simpa only[List.length_cons] using ih)
  simp (maxSteps:=1000000) +contextual -dsimp [Tryd.f22,hlt,hi,hc,hw,w0,g,eqS_self,List.set]
theorem o_heldW (l:List ByteArray) (k:Int) (h0:0≤k) (h1:k+(l.length:Nat)<2 ^ 60) (hn:l.length≤2097152):fo 22 [A (.sl 9 ((mksW k l).map wT)),A (vI k)]=some (R (vI (k+(l.length:Nat)))):=by
 have hlp:=lhdW (mksW k l) (by rw[mksW_len];exact hn) l 0 k rfl h0 h1
 refine orc_22 (l.length+1) ?_
 generalize k+(l.length:Int)=k' at *
 generalize mksW k l=l' at *
 simp -dsimp [Tryd.f22] at hlp
 simp (maxSteps:=1000000) +contextual -dsimp [Tryd.f22,hlp,List.set]
end Go.TM.Dw
namespace Go.TM.Dw
open Go.Lib
def spl:List UInt8→List (List UInt8)
 | []=>[[]]
 | c::r=>if c=32 then []::spl r else match spl r with
  | h::t=>(c::h)::t
  | []=>[[c]]
theorem spl_cons_eq (r:List UInt8):spl (32::r)=[]::spl r:=by simp[spl]
theorem index_one_eq (r:List UInt8):index (32::r) [32]=0:=by simp[index,List.isPrefixOf]
theorem index_one_ne {c:UInt8} (h:c≠32) (r:List UInt8):index (c::r) [32]=if index r [32]==-1 then -1 else index r [32]+1:=by
 have h2:((32:UInt8)==c)=false:=by simpa using fun e=>h e.symm
 simp[index,List.isPrefixOf,h2]
theorem split_spl:∀ s:List UInt8,splitK [32] 0 (count s [32]) s=spl s
 | []=>by simp[count,countFrom,index,splitK,spl]
 | c::r=>by
  have ih:=split_spl r
  by_cases hc:c=32
  ·subst hc
   rw[count_cons_eq,Nat.add_comm,splitK,index_one_eq]
   simp only[show ((0:Int)==-1)=false from rfl,Bool.false_eq_true,if_false,Int.toNat_zero,Nat.zero_add,List.take_zero,List.length_cons,List.length_nil,List.drop_succ_cons,List.drop_zero]
   rw[ih,spl_cons_eq]
  ·rw[count_cons_ne c 32 r hc]
   have hs:spl (c::r)=match spl r with | h::t=>(c::h)::t | []=>[[c]]:=by rw[spl,if_neg hc]
   rw[hs,←ih]
   cases hk:count r [32] with
   | zero=>rfl
   | succ k=>
    rcases index_spec r [32] with⟨h1,_⟩ | ⟨i,h1,-⟩
    ·rw[count_miss h1] at hk;omega
    ·have e1:index (c::r) [32]=((i+1:Nat):Int):=by
      rw[index_one_ne hc,h1]
      have:((i:Int)==-1)=false:=by simp
      rw[this];simp
     have n1:(((i+1:Nat):Int)==-1)=false:=by simp;omega
     have n2:((i:Int)==-1)=false:=by simp
     rw[splitK,splitK,e1,h1,n1,n2]
     simp only[Bool.false_eq_true,if_false,Int.toNat_natCast,Nat.add_zero,List.length_cons,List.length_nil,List.take_succ_cons,Nat.zero_add]
     rw[show i+1+1=(i+1)+1 from rfl,List.drop_succ_cons]
theorem spl_none:∀ p:List UInt8,32∉p→spl p=[p]
 | [],_=>rfl
 | c::r,h=>by
  simp only[List.mem_cons,not_or] at h
  rw[spl,if_neg (fun e=>h.1 e.symm),spl_none r h.2]
theorem spl_app:∀ (p r:List UInt8),32∉p→spl (p++32::r)=p::spl r
 | [],r,_=>spl_cons_eq r
 | c::p,r,h=>by
  simp only[List.mem_cons,not_or] at h
  rw[List.cons_append,spl,if_neg (fun e=>h.1 e.symm),spl_app p r h.2]
def ne (l:List UInt8):Bool:=!l.isEmpty
def wdl (s:List UInt8):List (List UInt8):=(spl s).filter ne
def ofL (l:List UInt8):ByteArray:=⟨l.toArray⟩
def wds (s:ByteArray):List ByteArray:=(wdl s.data.toList).map ofL
theorem ofL_toList (s:ByteArray):ofL s.data.toList=s:=by simp[ofL]
theorem cut_wds (s:ByteArray):(splitB ⟨#[32]⟩ 0 (countB s ⟨#[32]⟩) s).filter (fun x=>!x.data.toList.isEmpty)=wds s:=by
 have h:=splitB_data ⟨#[32]⟩ 0 (countB s ⟨#[32]⟩) s
 have h2:splitK [32] 0 (countB s ⟨#[32]⟩) s.data.toList=spl s.data.toList:=split_spl s.data.toList
 rw[show (⟨#[32]⟩:ByteArray).data.toList=[32] from rfl,h2] at h
 unfold wds wdl
 rw[←h,List.filter_map,List.map_map]
 have e:(ofL ∘ fun x:ByteArray=>x.data.toList)=id:=by funext x;exact ofL_toList x
 rw[e,List.map_id]
 rfl
def wfrom (s:ByteArray) (f:Nat):List ByteArray:=(wdl (s.data.toList.drop f)).map ofL
def piece (s:ByteArray) (f i:Nat):List ByteArray:=if f<i then [s.extract f i] else []
def free (s:ByteArray) (f i:Nat):Prop:=32∉(s.data.toList.drop f).take (i - f)
theorem piece_eq {s:ByteArray} {f i:Nat} (hi:i≤s.size):([(s.data.toList.drop f).take (i - f)].filter ne).map ofL=piece s f i:=by
 have hl:s.data.toList.length=s.size:=by simp
 unfold piece
 split
 ·rename_i h
  have:ne ((s.data.toList.drop f).take (i - f))=true:=by
   have:0<((s.data.toList.drop f).take (i - f)).length:=by rw[List.length_take,List.length_drop,hl];omega
   simp only[ne,List.isEmpty_iff,Bool.not_eq_true',decide_eq_false_iff_not,Bool.not_eq_eq_eq_not,Bool.not_true]
   cases hq:(s.data.toList.drop f).take (i - f) with
   | nil=>rw[hq] at this;simp at this
   | cons a b=>rfl
  rw[List.filter_cons,if_pos this]
  simp only[List.filter_nil,List.map_cons,List.map_nil,List.cons.injEq,and_true]
  have e:(s.extract f i).data.toList=(s.data.toList.drop f).take (i - f):=by
   rw[ByteArray.data_extract,Array.toList_extract,List.extract_eq_take_drop]
  rw[←e]
  exact ofL_toList _
 ·rename_i h
  have:(s.data.toList.drop f).take (i - f)=[]:=by rw[show i - f=0 by omega];rfl
  rw[this];rfl
theorem wfrom_end {s:ByteArray} {f:Nat} (hf:free s f s.size):wfrom s f=piece s f s.size:=by
 have hl:s.data.toList.length=s.size:=by simp
 have e:(s.data.toList.drop f).take (s.size - f)=s.data.toList.drop f:=List.take_of_length_le (by rw[List.length_drop,hl];omega)
 have h:=piece_eq (s:=s) (f:=f) (Nat.le_refl s.size)
 unfold free at hf
 rw[e] at hf h
 unfold wfrom wdl
 rw[spl_none _ hf,h]
theorem wfrom_hit {s:ByteArray} {f i:Nat} (hfi:f≤i) (hi:i<s.size) (hf:free s f i) (h:s.data.toList[i]?=some 32):wfrom s f=piece s f i++wfrom s (i+1):=by
 have hl:s.data.toList.length=s.size:=by simp
 have e:s.data.toList.drop f=(s.data.toList.drop f).take (i - f)++32::s.data.toList.drop (i+1):=by
  have h1:(s.data.toList.drop f).drop (i - f)=s.data.toList.drop i:=by rw[List.drop_drop];congr 1;omega
  have h2:s.data.toList.drop i=32::s.data.toList.drop (i+1):=by
   rw[List.drop_eq_getElem_cons (by omega)]
   rw[List.getElem?_eq_getElem (by omega)] at h
   simp only[Option.some.injEq] at h
   rw[h]
  rw[←h2,←h1,List.take_append_drop]
 have h3:=piece_eq (s:=s) (f:=f) (Nat.le_of_lt hi)
 unfold free at hf
 unfold wfrom wdl
 generalize (s.data.toList.drop f).take (i - f)=p at *
 rw[e,spl_app _ _ hf,←h3,←List.map_append,←List.filter_append]
 rfl
theorem free_next {s:ByteArray} {f i:Nat} (hfi:f≤i) (hi:i<s.size) (hf:free s f i) (h:s.data.toList[i]?≠some 32):free s f (i+1):=by
 have hl:s.data.toList.length=s.size:=by simp
 unfold free at *
 rw[show i+1 - f=(i - f)+1 by omega,List.take_add_one]
 simp only[List.mem_append,not_or]
 refine⟨hf,?_⟩
 rw[List.getElem?_drop,show f+(i - f)=i by omega]
 intro hm
 cases hq:s.data.toList[i]? with
 | none=>rw[hq] at hm;simp at hm
 | some c=>
  rw[hq] at hm h
  simp at hm
  exact h (by rw[←hm])
theorem free_self (s:ByteArray) (i:Nat):free s i i:=by simp[free]
end Go.TM.Dw
namespace Go.TM.Dw
open Go Go.TM Go.Proofs
set_option maxRecDepth 20000
attribute [local congr] gif_cg
attribute [local simp] footOf noClash clash upsets setsHit setHits layHits layMeets setsMeet evFeet
theorem pr_slS (s:ByteArray) (a b:Nat) (h1:a≤b) (h2:b≤s.size):pureRun Tryd.prog (Instr.sliceAt 9 (.string s) (some (.int .i64 a)) (some (.int .i64 b)) none)=some (.string (s.extract a b)):=by
 have h0:Tryd.prog.underlying 9=some .string:=by kernel_rfl
 have h3:(a:Int)≤b:=by omega
 have h4:(b:Int)≤s.size:=by omega
 simp[Instr.sliceAt,Instr.slice,Instr.sliceBounds,Instr.sliceBound,asIntOf,underlying,program,pureRun,Sem.bind,Bind.bind,Pure.pure,Sem.pure,h0,h3,h4,h1,h2]
def by_ (s:ByteArray) (i:Nat):UInt8:=(s.data.toList[i]?).getD 0
theorem by_get {s:ByteArray} {i:Nat} (h:i<s.size):s[(i:Int).toNat]?=some (by_ s i):=by
 have hl:i<s.data.toList.length:=by simpa using h
 unfold by_
 rw[List.getElem?_eq_getElem hl]
 simp[h]
 rfl
theorem by_at {s:ByteArray} {i:Nat} (h:i<s.size):s.data.toList[i]?=some (by_ s i):=by
 have hl:i<s.data.toList.length:=by simpa using h
 unfold by_
 rw[List.getElem?_eq_getElem hl];rfl
theorem lp20x (s:ByteArray) (f m:Nat) (hm:m=s.size+1) (out:List ByteArray):
  evLoop E (orc E) (20:Nat) 1 (loopOf Tryd.f20 0) ⟨36,[(0,vS s),(3,.ref 3 1 [] 0 out.length),(4,vI f),(5,vI m)],[(3,⟨1,1,false,[.own 9 (out.map wT)]⟩)],2⟩=
  some (.exit 0,⟨36,[(0,vS s),(3,.ref 3 1 [] 0 out.length),(4,vI f),(5,vI m),(10,vB false)],[(3,⟨1,1,false,[.own 9 (out.map wT)]⟩)],2⟩):=by
 have h:leI (m:Int) (s.size:Int)=false:=leI_f (by omega)
 refine evLoop_out ?_ (by simp)
 simp (maxSteps:=1000000) +contextual -dsimp [Tryd.f20,h,List.set]
theorem lp20 (s:ByteArray) (hs:s.size≤1048576) (m:Nat) (em:m=s.size+1):∀ (n i f:Nat) (out:List ByteArray),i+n=s.size→f≤i→out.length≤i→free s f i→
  evLoop E (orc E) (20:Nat) (n+2) (loopOf Tryd.f20 0) ⟨36,[(0,vS s),(3,.ref 3 1 [] 0 out.length),(4,vI f),(5,vI i)],[(3,⟨1,1,false,[.own 9 (out.map wT)]⟩)],2⟩=
  some (.exit 0,⟨36,[(0,vS s),(3,.ref 3 1 [] 0 (out++wfrom s f).length),(4,vI m),(5,vI m),(10,vB false)],[(3,⟨1,1,false,[.own 9 ((out++wfrom s f).map wT)]⟩)],2⟩):=by
 intro n
 induction n with
 | zero=>
  intro i f out hi hf ho hfree
  have e:i=s.size:=by omega
  subst e
  have hw:IntKind.i64.wrap ((s.size:Int)+1)=(m:Int):=by rw[wrapI]<;>omega
  have h1:leI (s.size:Int) (s.size:Int)=true:=leI_t (by omega)
  have h2:eqI (s.size:Int) (s.size:Int)=true:=eqI_t rfl
  have hm:out.length+1≤maxElems:=by unfold maxElems;omega
  have ih:=lp20x s m m em (out++wfrom s f)
  refine evLoop_next ?_ ih
  rw[wfrom_end hfree]
  unfold piece
  by_cases hq:f<s.size
  ·have h3:ltI (f:Int) (s.size:Int)=true:=ltI_t (by omega)
   have p:=pr_slS s f s.size hf (Nat.le_refl _)
   simp (maxSteps:=1000000) +contextual -dsimp [Tryd.f20,h1,h2,h3,p,hw,hm,hq,List.set]
  ·have h3:ltI (f:Int) (s.size:Int)=false:=ltI_f (by omega)
   simp (maxSteps:=1000000) +contextual -dsimp [Tryd.f20,h1,h2,h3,hw,hq,List.set]
 | succ n ih=>
  intro i f out hi hf ho hfree
  have hi2:i<s.size:=by omega
  obtain⟨j,ej⟩:∃ j,j=i+1:=⟨_,rfl⟩
  have hw:IntKind.i64.wrap ((i:Int)+1)=(j:Int):=by rw[wrapI]<;>omega
  have h1:leI (i:Int) (s.size:Int)=true:=leI_t (by omega)
  have h2:eqI (i:Int) (s.size:Int)=false:=eqI_f (by omega)
  have hm:out.length+1≤maxElems:=by unfold maxElems;omega
  have p0:=pr_idx s (i:Int) (by_ s i) (by omega) (by_get hi2)
  by_cases hb:by_ s i=32
  ·have h4:eqI ((by_ s i).toNat:Int) 32=true:=eqI_t (by rw[hb];rfl)
   have hit:=wfrom_hit hf hi2 hfree (by rw[by_at hi2,hb])
   rw[←ej] at hit
   have hi3:=ih j j (out++piece s f i) (by omega) (by omega) (by unfold piece;split<;>simp<;>omega) (free_self s _)
   rw[List.append_assoc,←hit] at hi3
   refine evLoop_next ?_ hi3
   unfold piece
   by_cases hq:f<i
   ·have h3:ltI (f:Int) (i:Int)=true:=ltI_t (by omega)
    have p:=pr_slS s f i hf (Nat.le_of_lt hi2)
    simp (maxSteps:=1000000) +contextual -dsimp [Tryd.f20,h1,h2,h3,h4,p0,p,hw,hm,hq,List.set]
   ·have h3:ltI (f:Int) (i:Int)=false:=ltI_f (by omega)
    simp (maxSteps:=1000000) +contextual -dsimp [Tryd.f20,h1,h2,h3,h4,p0,hw,hq,List.set]
  ·have h4:eqI ((by_ s i).toNat:Int) 32=false:=eqI_f (fun e=>hb (by
    have:(by_ s i).toNat=(32:UInt8).toNat:=by simpa using (Int.ofNat_inj.1 e)
    exact UInt8.toNat_inj.1 this))
   have hi3:=ih j f out (by omega) (by omega) (by omega) (by rw[ej];exact free_next hf hi2 hfree (by rw[by_at hi2];simpa using hb))
   refine evLoop_next ?_ hi3
   simp (maxSteps:=1000000) +contextual -dsimp [Tryd.f20,h1,h2,h4,p0,hw,List.set]
theorem f_l14W (s:ByteArray) (hs:s.size≤1048576):fo 20 [A (vS s)]=some (R (.own 9 ((wds s).map wT))):=by
 have hlp:=lp20 s hs (s.size+1) rfl s.size 0 0 [] (by omega) (by omega) (by simp) (free_self s 0)
 have e:([]:List ByteArray)++wfrom s 0=wds s:=rfl
 rw[e] at hlp
 have hc:=oclean_W (wds s)
 generalize wds s=l at *
 generalize s.size+1=m at *
 refine orc_20 (s.size+2) ?_
 simp -dsimp [Tryd.f20] at hlp
 simp (maxSteps:=1000000) +contextual -dsimp [Tryd.f20,hlp,hc,List.set]
abbrev cF:T:=.v (.func (.func 28) #[] #[])
def isE (x:ByteArray):Bool:=eqS x ⟨#[]⟩
theorem f_isE (x:ByteArray):fo 28 [A (vS x)]=some (R (vB (isE x))):=by
 refine orc_28 1 ?_
 unfold isE
 simp (maxSteps:=1000000) +contextual -dsimp [Tryd.f28,List.set]
def firstM (p:ByteArray→Bool):List ByteArray→Nat→Int
 | [],_=>-1
 | c::r,i=>if p c=true then (i:Int) else firstM p r (i+1)
theorem firstM_spec (p:ByteArray→Bool):∀ (l:List ByteArray) (i:Nat),(firstM p l i=-1∧∀ c,c∈l→p c=false)∨∃ k,k<l.length∧firstM p l i=((i+k:Nat):Int)∧(l.take k).filter (fun c=>!p c)=l.take k∧∃ c,l[k]?=some c∧p c=true
 | [],i=>.inl ⟨rfl,fun c hc=>by simp at hc⟩
 | c::r,i=>by
  simp only[firstM]
  cases h:p c
  ·rw[if_neg (by simp)]
   rcases firstM_spec p r (i+1) with⟨e,ha⟩ | ⟨k,hk,e,ht,c',hc',hp⟩
   ·exact .inl ⟨e,fun x hx=>by rcases List.mem_cons.1 hx with rfl | hx;exact h;exact ha x hx⟩
   ·exact .inr ⟨k+1,by simp;omega,by rw[e];congr 1;omega,by simp[h,ht],c',by simpa using hc',hp⟩
  ·rw[if_pos rfl]
   exact .inr ⟨0,by simp,by simp,by simp,c,by simp,h⟩
section df
variable {all:List ByteArray}
theorem lp32 (hl:all.length≤1048577):∀ (rest:List ByteArray) (i:Nat),all.drop i=rest→
  (firstM isE rest i=-1∧evLoop E (orc E) (32:Nat) (rest.length+1) (loopOf Tryd.f32 0) ⟨19,[(0,.sl 9 (all.map wT)),(1,cF),(7,vI all.length),(8,vI i)],[],2⟩=
    some (.exit 0,⟨19,[(0,.sl 9 (all.map wT)),(1,cF),(7,vI all.length),(8,vI (i+rest.length:Nat)),(9,vB false)],[],2⟩))∨
   ∃ k:Nat,firstM isE rest i=k∧evLoop E (orc E) (32:Nat) (rest.length+1) (loopOf Tryd.f32 0) ⟨19,[(0,.sl 9 (all.map wT)),(1,cF),(7,vI all.length),(8,vI i)],[],2⟩=some (.ret,⟨19,[(4,vI k)],[],2⟩)
 | [],i,h=>by
  have hge:all.length≤i:=by simpa using h
  have hlt:ltI (i:Int) (all.length:Int)=false:=ltI_f (by omega)
  refine .inl ⟨rfl,?_⟩
  rw[loop_eq]
  simp +contextual -dsimp [Tryd.f32,hlt]
 | c::rest,i,h=>by
  obtain⟨hi,hc,hr⟩:=drop_cons h
  have hlt:ltI (i:Int) (all.length:Int)=true:=ltI_t (by omega)
  have hw:IntKind.i64.wrap ((i:Int)+1)=((i+1:Nat):Int):=by rw[wrapI]<;>omega
  have g:=f_isE c
  have he:i+1+rest.length=i+(rest.length+1):=by omega
  simp only[firstM]
  cases q:isE c
  ·rw[if_neg (by simp)]
   rw[q] at g
   have step:∀ {r},evLoop E (orc E) (32:Nat) (rest.length+1) (loopOf Tryd.f32 0) ⟨19,[(0,.sl 9 (all.map wT)),(1,cF),(7,vI all.length),(8,vI (i+1:Nat))],[],2⟩=r→
     evLoop E (orc E) (32:Nat) (rest.length+1+1) (loopOf Tryd.f32 0) ⟨19,[(0,.sl 9 (all.map wT)),(1,cF),(7,vI all.length),(8,vI i)],[],2⟩=r:=fun ih=>by
    refine evLoop_next ?_ ih
    simp (maxSteps:=1000000) +contextual -dsimp [Tryd.f32,hlt,hi,hc,hw,g,List.set]
   rcases lp32 hl rest (i+1) hr with⟨e,ih⟩ | ⟨k,e,ih⟩
   ·refine .inl ⟨e,?_⟩
    rw[he] at ih
    exact step ih
   ·exact .inr ⟨k,e,step ih⟩
  ·rw[if_pos rfl]
   rw[q] at g
   refine .inr ⟨i,rfl,evLoop_out ?_ (by simp)⟩
   simp (maxSteps:=1000000) +contextual -dsimp [Tryd.f32,hlt,hi,hc,hw,g,List.set]
theorem f_IndexF (hl:all.length≤1048577):fo 32 [A (.sl 9 (all.map wT)),A cF]=some (R (vI (firstM isE all 0))):=by
 refine orc_32 (all.length+1) ?_
 rcases lp32 hl all 0 rfl with⟨e,ih⟩ | ⟨k,e,ih⟩
 ·rw[e]
  simp -dsimp [Tryd.f32] at ih
  simp (maxSteps:=1000000) +contextual -dsimp [Tryd.f32,ih,List.set]
 ·rw[e]
  simp -dsimp [Tryd.f32] at ih
  simp (maxSteps:=1000000) +contextual -dsimp [Tryd.f32,ih,List.set]
def dfS (p:ByteArray→Bool):List ByteArray→List (List T)×Nat→List (List T)×Nat
 | [],s=>s
 | c::r,s=>dfS p r (if p c=true then s else (s.1.set s.2 (wT c),s.2+1))
theorem dfS_spec (p:ByteArray→Bool):∀ (rest:List ByteArray) (j:Nat) (es:List (List T)) (w:Nat),w<j→j+rest.length=es.length→es.all (·.all plainCell)=true→
  (dfS p rest (es,w)).1.length=es.length∧(dfS p rest (es,w)).2<es.length∧(dfS p rest (es,w)).1.all (·.all plainCell)=true∧(dfS p rest (es,w)).1.take (dfS p rest (es,w)).2=es.take w++(rest.filter fun c=>!p c).map wT
 | [],j,es,w,h1,h2,h3=>by simp only[List.length_nil,Nat.add_zero] at h2;exact⟨rfl,by simp only[dfS];omega,h3,by simp[dfS]⟩
 | c::rest,j,es,w,h1,h2,h3=>by
  simp only[List.length_cons] at h2
  simp only[dfS]
  cases q:p c
  ·rw[if_neg (by simp)]
   have h3':(es.set w (wT c)).all (·.all plainCell)=true:=by
    rw[List.all_eq_true] at h3 ⊢
    intro x hx
    rcases List.mem_or_eq_of_mem_set hx with hx | rfl
    ·exact h3 x hx
    ·rfl
   obtain⟨a1,a2,a3,a4⟩:=dfS_spec p rest (j+1) (es.set w (wT c)) (w+1) (by omega) (by rw[List.length_set];omega) h3'
   rw[List.length_set] at a1 a2
   refine⟨a1,a2,a3,?_⟩
   rw[a4]
   have:(es.set w (wT c)).take (w+1)=es.take w++[wT c]:=by
    rw[List.set_eq_take_append_cons_drop,if_pos (by omega),List.take_append,List.length_take,Nat.min_eq_left (by omega),List.take_of_length_le (by rw[List.length_take];omega),show w+1 - w=1 by omega]
    simp
   rw[this]
   simp[q]
  ·rw[if_pos rfl]
   obtain⟨a1,a2,a3,a4⟩:=dfS_spec p rest (j+1) es w (by omega) (by omega) h3
   exact⟨a1,a2,a3,by rw[a4];simp[q]⟩
theorem lp26 (hl:all.length≤1048577):∀ (rest:List ByteArray) (j:Nat) (es:List (List T)) (w:Nat),all.drop j=rest→w<j→es.length=all.length→(∀ k,j≤k→es[k]?=(all.map wT)[k]?)→(∀ x,x∈es→x.length=1)→
  evLoop E (orc E) (26:Nat) (rest.length+1) (loopOf Tryd.f26 0) ⟨42,[(0,.ref 0 0 [] 0 all.length),(1,cF),(5,vI w),(6,vI j)],[(0,⟨0,0,false,[.own 9 es]⟩)],2⟩=
   some (.exit 0,⟨42,[(0,.ref 0 0 [] 0 all.length),(1,cF),(5,vI (dfS isE rest (es,w)).2),(6,vI (j+rest.length:Nat)),(19,vB false)],[(0,⟨0,0,false,[.own 9 (dfS isE rest (es,w)).1]⟩)],2⟩)
 | [],j,es,w,h,h1,h2,h3,_=>by
  have hge:all.length≤j:=by simpa using h
  have hlt:ltI (j:Int) (all.length:Int)=false:=ltI_f (by omega)
  rw[loop_eq]
  simp +contextual -dsimp [Tryd.f26,hlt,h2,dfS]
 | c::rest,j,es,w,h,h1,h2,h3,h4=>by
  obtain⟨hi,hc,hr⟩:=drop_cons h
  have hlt:ltI (j:Int) (all.length:Int)=true:=ltI_t (by omega)
  have hw:IntKind.i64.wrap ((j:Int)+1)=((j+1:Nat):Int):=by rw[wrapI]<;>omega
  have hw2:IntKind.i64.wrap ((w:Int)+1)=((w+1:Nat):Int):=by rw[wrapI]<;>omega
  have g:=f_isE c
  have he:j+1+rest.length=j+(rest.length+1):=by omega
  have hej:es[j]?=some (wT c):=by rw[h3 j (Nat.le_refl _)];simp[hi,hc]
  have hji:j<es.length:=by omega
  have hwi:w<es.length:=by omega
  have hwa:w<all.length:=by omega
  have hej':es[j]=wT c:=by rw[List.getElem?_eq_getElem hji] at hej;simpa using hej
  simp only[dfS]
  cases q:isE c
  ·have ih:=lp26 hl rest (j+1) (es.set w (wT c)) (w+1) hr (by omega) (by rw[List.length_set];exact h2) (fun k hk=>by rw[List.getElem?_set_ne (by omega)];exact h3 k (by omega)) (fun x hx=>by
    rcases List.mem_or_eq_of_mem_set hx with hx | rfl
    ·exact h4 x hx
    ·rfl)
   rw[q] at g
   rw[if_neg (by simp)]
   rw[he] at ih
   obtain⟨t1,hew⟩:∃ t1,es[w]=[t1]:=by
    have:=h4 _ (List.getElem_mem hwi)
    match h5:es[w],this with
    | [t1],_=>exact⟨t1,rfl⟩
   refine evLoop_next ?_ ih
   simp (maxSteps:=1000000) +contextual -dsimp [Tryd.f26,hlt,hi,hwa,hji,hwi,hej',hew,h2,hw,hw2,g,List.set]
  ·have ih:=lp26 hl rest (j+1) es w hr (by omega) h2 (fun k hk=>h3 k (by omega)) h4
   rw[q] at g
   rw[if_pos rfl]
   rw[he] at ih
   refine evLoop_next ?_ ih
   simp (maxSteps:=1000000) +contextual -dsimp [Tryd.f26,hlt,hi,hji,hej',h2,hw,g,List.set]
theorem f_DeleteF (hl:all.length≤1048577):
  fo 26 [⟨.ref 0 0 [] 0 all.length,some ⟨0,0,false,[.own 9 (all.map wT)]⟩⟩,A cF]=some ⟨.own 9 ((all.filter fun c=>!isE c).map wT),[],true⟩:=by
 have g1:=f_IndexF hl
 have hseal:=osealed_W all
 have hcl:=oclean_W (all.filter fun c=>!isE c)
 have hpl:(all.map wT).all (·.all plainCell)=true:=by
  rw[List.all_eq_true]
  intro x hx
  obtain⟨c,_,rfl⟩:=List.mem_map.1 hx
  rfl
 rcases firstM_spec isE all 0 with⟨e,ha⟩ | ⟨i,hi,e,ht,c,hc,hpc⟩
 ·have hf:(all.filter fun c=>!isE c)=all:=List.filter_eq_self.2 fun c hc=>by simp[ha c hc]
  rw[e] at g1
  rw[hf] at hcl ⊢
  have q1:eqI (-1) (-1)=true:=rfl
  refine orc_26 1 ?_
  simp (maxSteps:=1000000) +contextual -dsimp [Tryd.f26,g1,hseal,hcl,q1,List.set]
 ·rw[Nat.zero_add] at e
  rw[e] at g1
  have q1:eqI (i:Int) (-1)=false:=by simp[eqI]
  have hw:IntKind.i64.wrap ((i:Int)+1)=((i+1:Nat):Int):=by rw[wrapI]<;>omega
  have hlp:=lp26 hl (all.drop (i+1)) (i+1) (all.map wT) i rfl (by omega) (by simp) (fun k _=>rfl) (fun x hx=>by obtain⟨c,_,rfl⟩:=List.mem_map.1 hx;rfl)
  obtain⟨a1,a2,a3,a4⟩:=dfS_spec isE (all.drop (i+1)) (i+1) (all.map wT) i (by omega) (by simp;omega) hpl
  have hres:(all.map wT).take i++((all.drop (i+1)).filter fun c=>!isE c).map wT=(all.filter fun c=>!isE c).map wT:=by
   have h1:all=all.take i++c::all.drop (i+1):=by
    have:=List.take_append_drop i all
    rw[List.drop_eq_getElem_cons hi] at this
    have h2:all[i]=c:=by rw[List.getElem?_eq_getElem hi] at hc;simpa using hc
    rw[h2] at this
    exact this.symm
   conv=>rhs;rw[h1]
   rw[List.filter_append,ht,List.filter_cons,hpc]
   simp[List.map_take]
  rw[hres] at a4
  rw[List.length_map] at a1 a2
  generalize dfS isE (all.drop (i+1)) (all.map wT,i)=sE at *
  obtain⟨es',w'⟩:=sE
  simp only at a1 a2 a3 a4 hlp
  generalize hN:(all.drop (i+1)).length=N at hlp
  have k0:(0:Int)≤(w':Int):=by omega
  have k1:(w':Int)<(all.length:Int):=by omega
  have k2:(w':Int)≤(all.length:Int):=by omega
  have k3:(es'.take w'++List.replicate (all.length - w') [T.v (.string ⟨#[]⟩)]).length=all.length:=by rw[List.length_append,List.length_take,List.length_replicate];omega
  have k4:(es'.take w'++List.replicate (all.length - w') [T.v (.string ⟨#[]⟩)]).take w'=(all.filter fun c=>!isE c).map wT:=by
   rw[List.take_append_of_le_length (by rw[List.length_take];omega),List.take_take,Nat.min_self,a4]
  simp -dsimp [Tryd.f26] at hlp
  refine orc_26 (N+1) ?_
  simp (maxSteps:=1000000) +contextual -dsimp [Tryd.f26,g1,hseal,hcl,q1,hw,hlp,a1,a3,k0,k1,k2,k3,k4,List.set]
end df
theorem isE_eq (x:ByteArray):isE x=x.data.toList.isEmpty:=by
 unfold isE eqS
 rw[Lib.toList_data,Lib.toList_data]
 cases x.data.toList<;>rfl
theorem cut_len (s:ByteArray):(cutB s ⟨#[32]⟩).length≤s.size+1:=by
 have h1:1≤(⟨#[32]⟩:ByteArray).size:=by decide
 have h2:=Lib.countB_le ⟨#[32]⟩ h1 s.size s (Nat.le_refl _)
 have h3:=Lib.splitB_all ⟨#[32]⟩ h1 0 _ s rfl
 unfold cutB
 omega
theorem wds_len (s:ByteArray):(wds s).length≤s.size+1:=by
 have h1:=cut_wds s
 have h2:=cut_len s
 have h3:(wds s).length≤(cutB s ⟨#[32]⟩).length:=by rw[←h1];exact List.length_filter_le _ _
 omega
theorem ext_27 (s:ByteArray) (hs:s.size≤1048576):fo 27 [A (vS s),A (vS ⟨#[32]⟩)]=some (R (.own 9 ((cutB s ⟨#[32]⟩).map wT))):=by
 refine orc_ext (g:=splitT) rfl ?_
 have h1:s.size<4294967281:=by omega
 have h2:1≤(⟨#[32]⟩:ByteArray).size:=by decide
 unfold splitT
 simp only[h1,h2,and_self,if_true]
@[simp] theorem mode_27:E.mode (27:Nat)=[]:=rfl
theorem f_wordsOf (s:ByteArray) (hs:s.size≤1048576):fo 21 [A (vS s)]=some (R (.own 9 ((wds s).map wT))):=by
 have g1:=ext_27 s hs
 have hl:=cut_len s
 have g2:=f_DeleteF (all:=cutB s ⟨#[32]⟩) (by omega)
 have e:((cutB s ⟨#[32]⟩).filter fun c=>!isE c)=wds s:=by
  rw[←cut_wds s]
  congr 1
  funext c
  rw[isE_eq]
 rw[e] at g2
 generalize wds s=l at *
 generalize cutB s ⟨#[32]⟩=l0 at *
 have hc:=oclean_W l
 refine orc_21 1 ?_
 simp (maxSteps:=1000000) +contextual -dsimp [Tryd.f21,g1,g2,hc,lendEff,lendOne,lendMany,firstRef,lendRow,lendCell,putRow,putBack,valArg,List.set]
end Go.TM.Dw
