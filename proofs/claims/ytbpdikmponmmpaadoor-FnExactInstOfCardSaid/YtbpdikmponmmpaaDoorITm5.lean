/- Of the tree machine: its evaluator and why it is sound. -/
import Derived.Test.YtbpdikmponmmpaaDoorITm4
import Derived.Carry
import Derived.ChangeArms
import Derived.ChangeShapes
import Derived.OpenShut
import GoSem.ClaimJoined
import Derived.Test.YtbpdikmponmmpaaDoorProg
set_option linter.unusedSimpArgs false
set_option linter.unusedVariables false
namespace Go.TM
open Go
def loopsC:Code→List Code
 | .loop c=>c::loopsC c
 | .seq a b=>loopsC a++loopsC b
 | .cond _ a b=>loopsC a++loopsC b
 | .block _ c=>loopsC c
 | _=>[]
def loopOf (f:Func) (n:Nat):Code:=
 match f.body with
 | some c=>((loopsC c)[n]?).getD .skip
 | none=>.skip
section
variable {E:Env} {call:FuncId→List Arg→Option Res} {me:FuncId}
theorem evLoop_next {k:Nat} {c:Code} {st st1:St} {r:Option (Ex×St)} (h:evCode E call me (evLoop E call me k) c st=some (.normal,st1)) (h2:evLoop E call me k c st1=r):
  evLoop E call me (k+1) c st=r:=by simp only[evLoop,h,h2]
theorem evLoop_out {k:Nat} {c:Code} {st st1:St} {x:Ex} (h:evCode E call me (evLoop E call me k) c st=some (x,st1)) (hx:x≠.normal):
  evLoop E call me (k+1) c st=some (x,st1):=by
 simp only[evLoop,h]
 cases x with
 | normal=>exact absurd rfl hx
 | _=>rfl
end
theorem drop_cons {α:Type} {all rest:List α} {i:Nat} {c:α} (h:all.drop i=c::rest):∃ h:i<all.length,all[i]=c∧all.drop (i+1)=rest:=by
 have hi:i<all.length:=by
  rcases Nat.lt_or_ge i all.length with h' | h'
  ·exact h'
  ·rw[List.drop_eq_nil_of_le h'] at h;simp at h
 refine⟨hi,?_,?_⟩
 ·have:=List.getElem?_drop (xs:=all) (i:=i) (j:=0)
  rw[h] at this
  simp[hi] at this
  exact this.symm
 ·rw[←List.tail_drop,h];rfl
theorem wrapI {n:Int} (h1:-9223372036854775808≤n) (h2:n<9223372036854775808):IntKind.i64.wrap n=n:=by
 simp[IntKind.wrap,IntKind.bits,IntKind.signed]
 omega
theorem sealEs_map {α:Type} {f g:α→List T} (h:∀ a,sealL (f a)=g a):∀ (l:List α),sealEs (l.map f)=l.map g
 | []=>rfl
 | a::l=>by simp only[List.map_cons,sealEs,h a,sealEs_map h l]
section ite
variable {c:Prop} [Decidable c]
theorem ite_T (x y:Value):(if c then T.v x else T.v y)=T.v (if c then x else y):=by split<;>rfl
theorem ite_vint (k:IntKind) (a b:Int):(if c then Value.int k a else Value.int k b)=Value.int k (if c then a else b):=by split<;>rfl
theorem ite_some' {α:Type} (a b:α):(if c then some a else some b)=some (if c then a else b):=by split<;>rfl
end ite
def orB (a b:Bool):Bool:=a||b
def andB (a b:Bool):Bool:=a&&b
def notB (a:Bool):Bool:=!a
section gif
variable {α:Type}
theorem orB_tl (b:Bool):orB true b=true:=rfl
theorem orB_fl (b:Bool):orB false b=b:=by cases b<;>rfl
theorem andB_tl (b:Bool):andB true b=b:=by cases b<;>rfl
theorem andB_fl (b:Bool):andB false b=false:=rfl
theorem orB_tr (b:Bool):orB b true=true:=by cases b<;>rfl
theorem orB_fr (b:Bool):orB b false=b:=by cases b<;>rfl
theorem andB_tr (b:Bool):andB b true=b:=by cases b<;>rfl
theorem andB_fr (b:Bool):andB b false=false:=by cases b<;>rfl
theorem notB_t:notB true=false:=rfl
theorem notB_f:notB false=true:=rfl
theorem notB_notB (b:Bool):notB (notB b)=b:=by cases b<;>rfl
theorem gif_t (x y:α):gif true x y=x:=rfl
theorem gif_f (x y:α):gif false x y=y:=rfl
theorem gif_same (b:Bool) (x:α):gif b x x=x:=by cases b<;>rfl
theorem gif_and (p q:Bool) (x y:α):gif (andB p q) x y=gif p (gif q x y) y:=by cases p<;>cases q<;>rfl
theorem gif_some (b:Bool) (x y:α):gif b (some x) (some y)=some (gif b x y):=by cases b<;>rfl
theorem gif_Eff (b:Bool) (v v':T) (r r':Option Root) (s s':List CSet):gif b (⟨v,r,s⟩:Eff) ⟨v',r',s'⟩=⟨gif b v v',gif b r r',gif b s s'⟩:=by cases b<;>rfl
theorem gif_T (b:Bool) (x y:Value):gif b (T.v x) (T.v y)=T.v (gif b x y):=by cases b<;>rfl
theorem gif_cg {b b':Bool} {x x' y y':α} (h:b=b') (h1:b'=true→x=x') (h2:b'=false→y=y'):gif b x y=gif b' x' y':=by
 subst h
 cases b
 ·exact h2 rfl
 ·exact h1 rfl
def eqW (q w:Bool):Bool:=q==w
theorem eqW_t (q:Bool):eqW q true=q:=by cases q<;>rfl
theorem eqW_f (q:Bool):eqW q false=notB q:=by cases q<;>rfl
theorem wantV_bool' (w b:Bool):wantV w (.bool b)=some (eqW b w):=rfl
theorem wantV_undef' (w:Bool):wantV w undef=some false:=rfl
theorem wantV_gif (w p:Bool) (x:Value):wantV w (gif p x undef)=gif p (wantV w x) (some false):=by cases p<;>rfl
theorem gif_bf (p q:Bool):gif p q false=andB p q:=by cases p<;>cases q<;>rfl
def pif {α:Type} (b:Bool) (x y:α):α:=if b=true then x else y
theorem pif_t (x y:α):pif true x y=x:=rfl
theorem pif_f (x y:α):pif false x y=y:=rfl
theorem pickT_v (t:Bool) (x y:Value):pickT t (T.v x) (T.v y)=T.v (pif t x y):=by cases t<;>rfl
theorem pick_or (p q:Bool):pif p (Value.bool true) (gif (notB p) (Value.bool q) undef)=Value.bool (orB p q):=by cases p<;>rfl
theorem pick_or2 (p q:Bool):pif (notB p) (Value.bool true) (gif p (Value.bool q) undef)=Value.bool (orB (notB p) q):=by cases p<;>rfl
theorem pick_or2a (p r q:Bool):pif (notB (andB p r)) (Value.bool true) (gif p (gif r (Value.bool q) undef) undef)=Value.bool (orB (notB (andB p r)) q):=by cases p<;>cases r<;>rfl
theorem pick_and (p q:Bool):pif p (gif p (Value.bool q) undef) (Value.bool false)=Value.bool (andB p q):=by cases p<;>rfl
theorem pick_and2 (p r q:Bool):pif (andB p r) (gif p (gif r (Value.bool q) undef) undef) (Value.bool false)=Value.bool (andB (andB p r) q):=by cases p<;>cases r<;>rfl
theorem pick_and4 (p r s q:Bool):pif (andB (andB p r) s) (gif p (gif r (gif s (Value.bool q) undef) undef) undef) (Value.bool false)=Value.bool (andB (andB (andB p r) s) q):=by cases p<;>cases r<;>cases s<;>rfl
theorem pick_and5 (p r s t q:Bool):pif (andB (andB (andB p r) s) t) (gif p (gif r (gif s (gif t (Value.bool q) undef) undef) undef) undef) (Value.bool false)=Value.bool (andB (andB (andB (andB p r) s) t) q):=by cases p<;>cases r<;>cases s<;>cases t<;>rfl
theorem pick_or3 (p q:Bool):pif p (Value.bool true) (Value.bool q)=Value.bool (orB p q):=by cases p<;>rfl
theorem pick_and3 (p q:Bool):pif p (Value.bool q) (Value.bool false)=Value.bool (andB p q):=by cases p<;>rfl
end gif
section code
variable (E:Env) (call:FuncId→List Arg→Option Res) (me:FuncId) (lp:Code→St→Option (Ex×St))
def thenC (b:Code) (r:Option (Ex×St)):Option (Ex×St):=
 match r with
 | some (.normal,st)=>evCode E call me lp b st
 | r=>r
def outB (id:Nat) (r:Option (Ex×St)):Option (Ex×St):=
 match r with
 | some (.exit i,st)=>some (if i=id then .normal else .exit i,st)
 | r=>r
def endB (f:FuncId) (fn:Func) (args:List Arg) (r:Option (Ex×St)):Option Res:=
 match r with
 | some (.normal,st)=>finishX E f fn args st
 | some (.ret,st)=>finishX E f fn args st
 | _=>none
theorem code_seq (a b:Code) (st:St):evCode E call me lp (.seq a b) st=thenC E call me lp b (evCode E call me lp a st):=rfl
theorem code_block (id:Nat) (c:Code) (st:St):evCode E call me lp (.block id c) st=outB id (evCode E call me lp c st):=rfl
theorem code_skip (st:St):evCode E call me lp .skip st=some (.normal,st):=rfl
theorem code_ret (st:St):evCode E call me lp .ret st=some (.ret,st):=rfl
theorem code_exit (id:Nat) (st:St):evCode E call me lp (.exit id) st=some (.exit id,st):=rfl
theorem code_loop (c:Code) (st:St):evCode E call me lp (.loop c) st=lp c st:=rfl
theorem code_cond (c:Operand) (a b:Code) (st:St):evCode E call me lp (.cond c a b) st=match St.val st.fr c with
  | some (.v (.bool t))=>if t=true then evCode E call me lp a st else evCode E call me lp b st
  | _=>none:=rfl
theorem code_region (id:Nat) (ops:Array Oper) (dr:Bool) (st:St):evCode E call me lp (.region id ops dr) st=match evRegion E call me id ops.toList dr st with | some st=>some (.normal,st) | none=>none:=rfl
theorem thenC_normal (b:Code) (st:St):thenC E call me lp b (some (.normal,st))=evCode E call me lp b st:=rfl
theorem thenC_ret (b:Code) (st:St):thenC E call me lp b (some (.ret,st))=some (.ret,st):=rfl
theorem thenC_exit (b:Code) (i:Nat) (st:St):thenC E call me lp b (some (.exit i,st))=some (.exit i,st):=rfl
theorem thenC_none (b:Code):thenC E call me lp b none=none:=rfl
theorem outB_normal (id:Nat) (st:St):outB id (some (.normal,st))=some (.normal,st):=rfl
theorem outB_ret (id:Nat) (st:St):outB id (some (.ret,st))=some (.ret,st):=rfl
theorem outB_exit (id i:Nat) (st:St):outB id (some (.exit i,st))=some (if i=id then .normal else .exit i,st):=rfl
theorem outB_none (id:Nat):outB id none=none:=rfl
theorem endB_normal (f:FuncId) (fn:Func) (args:List Arg) (st:St):endB E f fn args (some (.normal,st))=finishX E f fn args st:=rfl
theorem endB_ret (f:FuncId) (fn:Func) (args:List Arg) (st:St):endB E f fn args (some (.ret,st))=finishX E f fn args st:=rfl
theorem body_eq (n:Nat) (f:FuncId) (fn:Func) (args:List Arg):evBody E call n f fn args=match fn.body with
  | none=>none
  | some c=>endB E f fn args (evCode E call f (evLoop E call f n) c ⟨max fn.ntmps args.length,initFr 0 args,initRt 0 args,2⟩):=rfl
variable {c:Prop} [Decidable c]
theorem thenC_ite (b:Code) (x y:Option (Ex×St)):thenC E call me lp b (if c then x else y)=if c then thenC E call me lp b x else thenC E call me lp b y:=by split<;>rfl
theorem thenC_ite' (b:Code) (x y:Ex×St):thenC E call me lp b (some (if c then x else y))=if c then thenC E call me lp b (some x) else thenC E call me lp b (some y):=by split<;>rfl
theorem outB_ite (id:Nat) (x y:Option (Ex×St)):outB id (if c then x else y)=if c then outB id x else outB id y:=by split<;>rfl
theorem outB_ite' (id:Nat) (x y:Ex×St):outB id (some (if c then x else y))=if c then outB id (some x) else outB id (some y):=by split<;>rfl
theorem endB_ite (f:FuncId) (fn:Func) (args:List Arg) (x y:Option (Ex×St)):endB E f fn args (if c then x else y)=if c then endB E f fn args x else endB E f fn args y:=by split<;>rfl
theorem endB_ite' (f:FuncId) (fn:Func) (args:List Arg) (x y:Ex×St):endB E f fn args (some (if c then x else y))=if c then endB E f fn args (some x) else endB E f fn args (some y):=by split<;>rfl
def nextL (k:Nat) (b:Code) (r:Option (Ex×St)):Option (Ex×St):=
 match r with
 | some (.normal,st)=>evLoop E call me k b st
 | r=>r
theorem loop_eq (k:Nat) (b:Code) (st:St):evLoop E call me (k+1) b st=nextL E call me k b (evCode E call me (evLoop E call me k) b st):=rfl
theorem nextL_normal (k:Nat) (b:Code) (st:St):nextL E call me k b (some (.normal,st))=evLoop E call me k b st:=rfl
theorem nextL_ret (k:Nat) (b:Code) (st:St):nextL E call me k b (some (.ret,st))=some (.ret,st):=rfl
theorem nextL_exit (k:Nat) (b:Code) (i:Nat) (st:St):nextL E call me k b (some (.exit i,st))=some (.exit i,st):=rfl
theorem nextL_ite (k:Nat) (b:Code) (x y:Option (Ex×St)):nextL E call me k b (if c then x else y)=if c then nextL E call me k b x else nextL E call me k b y:=by split<;>rfl
theorem nextL_ite' (k:Nat) (b:Code) (x y:Ex×St):nextL E call me k b (some (if c then x else y))=if c then nextL E call me k b (some x) else nextL E call me k b (some y):=by split<;>rfl
theorem ite_Res (t t':T) (o o':List (Nat×List T)) (b b':Bool):(if c then (⟨t,o,b⟩:Res) else ⟨t',o',b'⟩)=⟨if c then t else t',if c then o else o',if c then b else b'⟩:=by split<;>rfl
end code
open Go Go.RowKit
section
variable {H:Type} {enc:TypeId×Value→H} {P:Program} {w:World} {base:Nat} {spare:Nat→Bool} {held:Bool} {sz:TypeId→Nat} {I:Nat→Prop}
end
end Go.TM
namespace Go.TM.Dw
open Go Go.TM Go.Proofs
def viewT (f:Nat):Option View:=none
theorem view_holds {E:Env} (hP:E.P=Tryd.prog):∀ f v,viewT f=some v→ViewOk E f v:=fun f v h=>by simp[viewT] at h
end Go.TM.Dw
