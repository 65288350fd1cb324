/- Of the tree machine: its evaluator and why it is sound. -/
import Derived.Test.YtbpdikmponmmpaaDoorITm4
import Derived.Carry
import Derived.ChangeArms
import Derived.ChangeShapes
import Derived.OpenShut
import GoSem.ClaimJoined
import Derived.Test.YtbpdikmponmmpaaDoorProg
set_option linter.unusedSimpArgs false
set_option linter.unusedVariables false
namespace Go.TM
open Go
def loopsC:Code→List Code
 | .loop c=>c::loopsC c
 | .seq a b=>loopsC a++loopsC b
 | .cond _ a b=>loopsC a++loopsC b
 | .block _ c=>loopsC c
 | _=>[]
def loopOf (f:Func) (n:Nat):Code:=
 match f.body with
 | some c=>((loopsC c)[n]?).getD .skip
 | none=>.skip
section
variable {E:Env} {call:FuncId→List Arg→Option Res} {me:FuncId}
theorem evLoop_next {k:Nat} {c:Code} {st st1:St} {r:Option (Ex×St)} (h:evCode E call me (evLoop E call me k) c st=some (.normal,st1)) (h2:evLoop E call me k c st1=r):
  evLoop E call me (k+1) c st=r:=by simp only[evLoop,h,h2]
theorem evLoop_out {k:Nat} {c:Code} {st st1:St} {x:Ex} (h:evCode E call me (evLoop E call me k) c st=some (x,st1)) (hx:x≠.normal):
  evLoop E call me (k+1) c st=some (x,st1):=by
 simp only[evLoop,h]
 cases x with
 | normal=>exact absurd rfl hx
 | _=>rfl
end
theorem drop_cons {α:Type} {all rest:List α} {i:Nat} {c:α} (h:all.drop i=c::rest):∃ h:i<all.length,all[i]=c∧all.drop (i+1)=rest:=by
 have hi:i<all.length:=by
  rcases Nat.lt_or_ge i all.length with h' | h'
  ·exact h'
  ·rw[List.drop_eq_nil_of_le h'] at h;simp at h
 refine⟨hi,?_,?_⟩
 ·have:=List.getElem?_drop (xs:=all) (i:=i) (j:=0)
  rw[h] at this
  simp[hi] at this
  exact this.symm
 ·rw[←List.tail_drop,h];rfl
theorem wrapI {n:Int} (h1:-9223372036854775808≤n) (h2:n<9223372036854775808):IntKind.i64.wrap n=n:=by
 simp[IntKind.wrap,IntKind.bits,IntKind.signed]
 omega
theorem sealEs_map {α:Type} {f g:α→List T} (h:∀ a,sealL (f a)=g a):∀ (l:List α),sealEs (l.map f)=l.map g
 | []=>rfl
 | a::l=>by simp only[List.map_cons,sealEs,h a,sealEs_map h l]
section ite
variable {c:Prop} [Decidable c]
theorem ite_T (x y:Value):(if c then T.v x else T.v y)=T.v (if c then x else y):=by split<;>rfl
theorem ite_vint (k:IntKind) (a b:Int):(if c then Value.int k a else Value.int k b)=Value.int k (if c then a else b):=by split<;>rfl
theorem ite_some' {α:Type} (a b:α):(if c then some a else some b)=some (if c then a else b):=by split<;>rfl
end ite
def orB (a b:Bool):Bool:=a||b
def andB (a b:Bool):Bool:=a&&b
def notB (a:Bool):Bool:=!a
section gif
variable {α:Type}
theorem orB_tl (b:Bool):orB true b=true:=rfl
theorem orB_fl (b:Bool):orB false b=b:=by cases b<;>rfl
theorem andB_tl (b:Bool):andB true b=b:=by cases b<;>rfl
theorem andB_fl (b:Bool):andB false b=false:=rfl
theorem orB_tr (b:Bool):orB b true=true:=by cases b<;>rfl
theorem orB_fr (b:Bool):orB b false=b:=by cases b<;>rfl
theorem andB_tr (b:Bool):andB b true=b:=by cases b<;>rfl
theorem andB_fr (b:Bool):andB b false=false:=by cases b<;>rfl
theorem notB_t:notB true=false:=rfl
theorem notB_f:notB false=true:=rfl
theorem notB_notB (b:Bool):notB (notB b)=b:=by cases b<;>rfl
theorem gif_t (x y:α):gif true x y=x:=rfl
theorem gif_f (x y:α):gif false x y=y:=rfl
theorem gif_same (b:Bool) (x:α):gif b x x=x:=by cases b<;>rfl
theorem gif_and (p q:Bool) (x y:α):gif (andB p q) x y=gif p (gif q x y) y:=by cases p<;>cases q<;>rfl
theorem gif_some (b:Bool) (x y:α):gif b (some x) (some y)=some (gif b x y):=by cases b<;>rfl
theorem gif_Eff (b:Bool) (v v':T) (r r':Option Root) (s s':List CSet):gif b (⟨v,r,s⟩:Eff) ⟨v',r',s'⟩=⟨gif b v v',gif b r r',gif b s s'⟩:=by cases b<;>rfl
theorem gif_T (b:Bool) (x y:Value):gif b (T.v x) (T.v y)=T.v (gif b x y):=by cases b<;>rfl
theorem gif_cg {b b':Bool} {x x' y y':α} (h:b=b') (h1:b'=true→x=x') (h2:b'=false→y=y'):gif b x y=gif b' x' y':=by
 subst h
 cases b
 ·exact h2 rfl
 ·exact h1 rfl
def eqW (q w:Bool):Bool:=q==w
theorem eqW_t (q:Bool):eqW q true=q:=by cases q<;>rfl
theorem eqW_f (q:Bool):eqW q false=notB q:=by cases q<;>rfl
theorem wantV_bool' (w b:Bool):wantV w (.bool b)=some (eqW b w):=rfl
theorem wantV_undef' (w:Bool):wantV w undef=some false:=rfl
theorem wantV_gif (w p:Bool) (x:Value):wantV w (gif p x undef)=gif p (wantV w x) (some false):=by cases p<;>rfl
theorem gif_bf (p q:Bool):gif p q false=andB p q:=by cases p<;>cases q<;>rfl
def pif {α:Type} (b:Bool) (x y:α):α:=if b=true then x else y
theorem pif_t (x y:α):pif true x y=x:=rfl
theorem pif_f (x y:α):pif false x y=y:=rfl
theorem pickT_v (t:Bool) (x y:Value):pickT t (T.v x) (T.v y)=T.v (pif t x y):=by cases t<;>rfl
theorem pick_or (p q:Bool):pif p (Value.bool true) (gif (notB p) (Value.bool q) undef)=Value.bool (orB p q):=by cases p<;>rfl
theorem pick_or2 (p q:Bool):pif (notB p) (Value.bool true) (gif p (Value.bool q) undef)=Value.bool (orB (notB p) q):=by cases p<;>rfl
theorem pick_or2a (p r q:Bool):pif (notB (andB p r)) (Value.bool true) (gif p (gif r (Value.bool q) undef) undef)=Value.bool (orB (notB (andB p r)) q):=by cases p<;>cases r<;>rfl
theorem pick_and (p q:Bool):pif p (gif p (Value.bool q) undef) (Value.bool false)=Value.bool (andB p q):=by cases p<;>rfl
theorem pick_and2 (p r q:Bool):pif (andB p r) (gif p (gif r (Value.bool q) undef) undef) (Value.bool false)=Value.bool (andB (andB p r) q):=by cases p<;>cases r<;>rfl
theorem pick_and4 (p r s q:Bool):pif (andB (andB p r) s) (gif p (gif r (gif s (Value.bool q) undef) undef) undef) (Value.bool false)=Value.bool (andB (andB (andB p r) s) q):=by cases p<;>cases r<;>cases s<;>rfl
theorem pick_and5 (p r s t q:Bool):pif (andB (andB (andB p r) s) t) (gif p (gif r (gif s (gif t (Value.bool q) undef) undef) undef) undef) (Value.bool false)=Value.bool (andB (andB (andB (andB p r) s) t) q):=by cases p<;>cases r<;>cases s<;>cases t<;>rfl
theorem pick_or3 (p q:Bool):pif p (Value.bool true) (Value.bool q)=Value.bool (orB p q):=by cases p<;>rfl
theorem pick_and3 (p q:Bool):pif p (Value.bool q) (Value.bool false)=Value.bool (andB p q):=by cases p<;>rfl
end gif
section code
variable (E:Env) (call:FuncId→List Arg→Option Res) (me:FuncId) (lp:Code→St→Option (Ex×St))
def thenC (b:Code) (r:Option (Ex×St)):Option (Ex×St):=
 match r with
 | some (.normal,st)=>evCode E call me lp b st
 | r=>r
def outB (id:Nat) (r:Option (Ex×St)):Option (Ex×St):=
 match r with
 | some (.exit i,st)=>some (if i=id then .normal else .exit i,st)
 | r=>r
def endB (f:FuncId) (fn:Func) (args:List Arg) (r:Option (Ex×St)):Option Res:=
 match r with
 | some (.normal,st)=>finishX E f fn args st
 | some (.ret,st)=>finishX E f fn args st
 | _=>none
theorem code_seq (a b:Code) (st:St):evCode E call me lp (.seq a b) st=thenC E call me lp b (evCode E call me lp a st):=rfl
theorem code_block (id:Nat) (c:Code) (st:St):evCode E call me lp (.block id c) st=outB id (evCode E call me lp c st):=rfl
theorem code_skip (st:St):evCode E call me lp .skip st=some (.normal,st):=rfl
theorem code_ret (st:St):evCode E call me lp .ret st=some (.ret,st):=rfl
theorem code_exit (id:Nat) (st:St):evCode E call me lp (.exit id) st=some (.exit id,st):=rfl
theorem code_loop (c:Code) (st:St):evCode E call me lp (.loop c) st=lp c st:=rfl
theorem code_cond (c:Operand) (a b:Code) (st:St):evCode E call me lp (.cond c a b) st=match St.val st.fr c with
  | some (.v (.bool t))=>if t=true then evCode E call me lp a st else evCode E call me lp b st
  | _=>none:=rfl
theorem code_region (id:Nat) (ops:Array Oper) (dr:Bool) (st:St):evCode E call me lp (.region id ops dr) st=match evRegion E call me id ops.toList dr st with | some st=>some (.normal,st) | none=>none:=rfl
theorem thenC_normal (b:Code) (st:St):thenC E call me lp b (some (.normal,st))=evCode E call me lp b st:=rfl
theorem thenC_ret (b:Code) (st:St):thenC E call me lp b (some (.ret,st))=some (.ret,st):=rfl
theorem thenC_exit (b:Code) (i:Nat) (st:St):thenC E call me lp b (some (.exit i,st))=some (.exit i,st):=rfl
theorem thenC_none (b:Code):thenC E call me lp b none=none:=rfl
theorem outB_normal (id:Nat) (st:St):outB id (some (.normal,st))=some (.normal,st):=rfl
theorem outB_ret (id:Nat) (st:St):outB id (some (.ret,st))=some (.ret,st):=rfl
theorem outB_exit (id i:Nat) (st:St):outB id (some (.exit i,st))=some (if i=id then .normal else .exit i,st):=rfl
theorem outB_none (id:Nat):outB id none=none:=rfl
theorem endB_normal (f:FuncId) (fn:Func) (args:List Arg) (st:St):endB E f fn args (some (.normal,st))=finishX E f fn args st:=rfl
theorem endB_ret (f:FuncId) (fn:Func) (args:List Arg) (st:St):endB E f fn args (some (.ret,st))=finishX E f fn args st:=rfl
theorem body_eq (n:Nat) (f:FuncId) (fn:Func) (args:List Arg):evBody E call n f fn args=match fn.body with
  | none=>none
  | some c=>endB E f fn args (evCode E call f (evLoop E call f n) c ⟨max fn.ntmps args.length,initFr 0 args,initRt 0 args,2⟩):=rfl
variable {c:Prop} [Decidable c]
theorem thenC_ite (b:Code) (x y:Option (Ex×St)):thenC E call me lp b (if c then x else y)=if c then thenC E call me lp b x else thenC E call me lp b y:=by split<;>rfl
theorem thenC_ite' (b:Code) (x y:Ex×St):thenC E call me lp b (some (if c then x else y))=if c then thenC E call me lp b (some x) else thenC E call me lp b (some y):=by split<;>rfl
theorem outB_ite (id:Nat) (x y:Option (Ex×St)):outB id (if c then x else y)=if c then outB id x else outB id y:=by split<;>rfl
theorem outB_ite' (id:Nat) (x y:Ex×St):outB id (some (if c then x else y))=if c then outB id (some x) else outB id (some y):=by split<;>rfl
theorem endB_ite (f:FuncId) (fn:Func) (args:List Arg) (x y:Option (Ex×St)):endB E f fn args (if c then x else y)=if c then endB E f fn args x else endB E f fn args y:=by split<;>rfl
theorem endB_ite' (f:FuncId) (fn:Func) (args:List Arg) (x y:Ex×St):endB E f fn args (some (if c then x else y))=if c then endB E f fn args (some x) else endB E f fn args (some y):=by split<;>rfl
def nextL (k:Nat) (b:Code) (r:Option (Ex×St)):Option (Ex×St):=
 match r with
 | some (.normal,st)=>evLoop E call me k b st
 | r=>r
theorem loop_eq (k:Nat) (b:Code) (st:St):evLoop E call me (k+1) b st=nextL E call me k b (evCode E call me (evLoop E call me k) b st):=rfl
theorem nextL_normal (k:Nat) (b:Code) (st:St):nextL E call me k b (some (.normal,st))=evLoop E call me k b st:=rfl
theorem nextL_ret (k:Nat) (b:Code) (st:St):nextL E call me k b (some (.ret,st))=some (.ret,st):=rfl
theorem nextL_exit (k:Nat) (b:Code) (i:Nat) (st:St):nextL E call me k b (some (.exit i,st))=some (.exit i,st):=rfl
theorem nextL_ite (k:Nat) (b:Code) (x y:Option (Ex×St)):nextL E call me k b (if c then x else y)=if c then nextL E call me k b x else nextL E call me k b y:=by split<;>rfl
theorem nextL_ite' (k:Nat) (b:Code) (x y:Ex×St):nextL E call me k b (some (if c then x else y))=if c then nextL E call me k b (some x) else nextL E call me k b (some y):=by split<;>rfl
theorem ite_Res (t t':T) (o o':List (Nat×List T)) (b b':Bool):(if c then (⟨t,o,b⟩:Res) else ⟨t',o',b'⟩)=⟨if c then t else t',if c then o else o',if c then b else b'⟩:=by split<;>rfl
end code
open Go Go.RowKit
def tilesB (P:Program):List Field→Nat→Nat→Bool
 | [],a,tot=>a==tot
 | f::fs,a,tot=>f.offset==a&&tilesB P fs (a+P.cellsOf f.type) tot
def plainT (sz:TypeId→Nat) (P:Program):Nat→TypeId→Bool
 | 0,_=>false
 | n+1,t=>
  match P.underlying t with
  | some .bool | some (.int _) | some .string=>true
  | some (.slice e)=>sz e==P.cellsOf e&&P.cellsOf e != 0&&P.bytesOf e != 0&&plainT sz P n e
  | some (.struct fs)=>tilesB P fs.toList 0 (P.cellsOf t)&&fs.toList.all fun f=>plainT sz P n f.type
  | _=>false
def treeFs (Q:TypeId→List T→Prop):List Field→List T→Prop
 | [],ts=>ts=[]
 | f::fs,ts=>∃ c r,ts=c++r∧Q f.type c∧treeFs Q fs r
def TreeT (P:Program):Nat→TypeId→List T→Prop
 | 0,_,_=>False
 | n+1,t,ts=>
  match P.underlying t with
  | some .bool=>∃ b,ts=[.v (.bool b)]
  | some (.int k)=>∃ x,ts=[.v (.int k x)]∧(Lit.int k x).wf=true
  | some .string=>∃ s:ByteArray,ts=[.v (.string s)]∧s.size≤reachBytes
  | some (.slice e)=>∃ es,ts=[.sl e es]∧es.length≤reachBytes∧∀ c,c∈es→TreeT P n e c
  | some (.struct fs)=>treeFs (TreeT P n) fs.toList ts
  | _=>False
theorem okL_glue {sz h I}:∀ {c d:List T} {us vs:List Value},okL sz h I c us []→okL sz h I d vs []→okL sz h I (c++d) (us++vs) []
 | [],d,us,vs,h1,h2=>by
  simp only[okL] at h1
  rw[h1.1];simpa using h2
 | t::c,d,us,vs,h1,h2=>by
  simp only[okL] at h1
  obtain⟨u,us',f1,f2,rfl,hf,h3,h4⟩:=h1
  have e:=List.append_eq_nil_iff.1 hf.symm
  obtain⟨rfl,rfl⟩:=e
  exact⟨u,us'++vs,[],[],rfl,rfl,h3,okL_glue h4 h2⟩
theorem okEs_mk {sz h I} {s:Nat} {Q:List T→Prop}:∀ (m:Nat) (l:List Value),
  (∀ i,i<m→∃ c,Q c∧c.length=s∧okL sz h I c ((l.drop (i*s)).take s) [])→∃ es:List (List T),es.length=m∧(∀ c,c∈es→Q c)∧okEs sz h I s es l []
 | 0,l,_=>⟨[],rfl,fun c hc=>by simp at hc,rfl⟩
 | m+1,l,hx=>by
  obtain⟨c,q,hl,hc⟩:=hx 0 (by omega)
  obtain⟨es,h1,h2,h3⟩:=okEs_mk (Q:=Q) m (l.drop s) (fun i hi=>by
   obtain⟨c,q,hl,hc⟩:=hx (i+1) (by omega)
   refine⟨c,q,hl,?_⟩
   rw[List.drop_drop]
   have e:s+i*s=(i+1)*s:=by rw[Nat.add_mul];omega
   rw[e];exact hc)
  refine⟨c::es,by simp[h1],fun d hd=>?_,[],[],hl,rfl,by simpa using hc,h3⟩
  rcases List.mem_cons.1 hd with rfl | hd
  ·exact q
  ·exact h2 d hd
section
variable {H:Type} {enc:TypeId×Value→H} {P:Program} {w:World} {base:Nat} {spare:Nat→Bool} {held:Bool} {sz:TypeId→Nat} {I:Nat→Prop}
theorem read_fields {Q:TypeId→List T→Prop} {tot:Nat} {cs:List Value}:∀ (fs:List Field) (a:Nat),tilesB P fs a tot=true→cs.length=tot→a≤tot→
  (∀ f,f∈fs→∃ ts,Q f.type ts∧okL sz w.heap I ts ((cs.drop f.offset).take (P.cellsOf f.type)) [])→∃ ts,treeFs Q fs ts∧okL sz w.heap I ts (cs.drop a) []
 | [],a,ht,hl,ha,hx=>by
  simp only[tilesB,beq_iff_eq] at ht
  refine⟨[],rfl,?_⟩
  rw[List.drop_eq_nil_of_le (by omega)];exact⟨rfl,rfl⟩
 | f::fs,a,ht,hl,ha,hx=>by
  simp only[tilesB,Bool.and_eq_true,beq_iff_eq] at ht
  obtain⟨h1,h2⟩:=ht
  obtain⟨c,q1,q2⟩:=hx f (by simp)
  have hle:a+P.cellsOf f.type≤tot:=by
   clear hx q1 q2
   have:∀ (fs:List Field) (a:Nat),tilesB P fs a tot=true→a≤tot:=by
    intro fs
    induction fs with
    | nil=>intro a h;simp[tilesB] at h;omega
    | cons g gs ih=>
     intro a h
     simp only[tilesB,Bool.and_eq_true] at h
     have:=ih _ h.2;omega
   exact this fs _ h2
  obtain⟨r,q3,q4⟩:=read_fields fs (a+P.cellsOf f.type) h2 hl hle (fun g hg=>hx g (by simp[hg]))
  refine⟨c++r,⟨c,r,rfl,q1,q3⟩,?_⟩
  have e:cs.drop a=(cs.drop f.offset).take (P.cellsOf f.type)++cs.drop (a+P.cellsOf f.type):=by
   rw[h1,←List.drop_drop,List.take_append_drop]
  rw[e];exact okL_glue q2 q4
theorem weightsAll_mem {e:TypeId} {k:Nat} {d:DataW H} (hk:k∈d.weights P e):∀ {l:List (DataW H)},d∈l→k∈DataW.weightsAll P e l
 | [],h=>by simp at h
 | x::l,h=>by
  unfold DataW.weightsAll
  rcases List.mem_cons.1 h with rfl | h
  ·exact List.mem_append_left _ hk
  ·exact List.mem_append_right _ (weightsAll_mem hk h)
theorem weightsEach_mem {k:Nat} {d:DataW H} {t:TypeId} (hk:k∈d.weights P t):∀ {ts:List TypeId} {l:List (DataW H)} {i:Nat},ts[i]?=some t→l[i]?=some d→k∈DataW.weightsEach P ts l
 | [],l,i,h,_=>by simp at h
 | _::_,[],i,_,h=>by simp at h
 | t'::ts,d'::l,0,h1,h2=>by
  simp at h1 h2
  subst h1;subst h2
  unfold DataW.weightsEach
  exact List.mem_append_left _ hk
 | t'::ts,d'::l,i+1,h1,h2=>by
  unfold DataW.weightsEach
  exact List.mem_append_right _ (weightsEach_mem hk (by simpa using h1) (by simpa using h2))
theorem read_ok (hI:∀ b,b<w.heap.size→I b):∀ (n:Nat) (fuel:Nat) (t:TypeId) (cs:List Value) (x:DataW H×List MemPlace),plainT sz P n t=true→
  DataW.trod enc P w base spare held fuel t cs=some x→(∀ k,k∈x.1.weights P t→k≤reachBytes)→∃ ts,TreeT P n t ts∧okL sz w.heap I ts cs []
 | 0,_,_,_,_,h,_,_=>by simp[plainT] at h
 | n+1,fuel,t,cs,x,hp,h,hwt=>by
  unfold plainT at hp
  unfold TreeT
  split at hp
  ·rename_i hu
   obtain⟨b,rfl,_⟩:=DataW.trod_bool hu h
   exact⟨_,⟨b,rfl⟩,⟨_,[],[],[],rfl,rfl,⟨rfl,rfl⟩,⟨rfl,rfl⟩⟩⟩
  ·rename_i hu
   obtain⟨b,rfl,_,hw⟩:=DataW.trod_int hu h
   exact⟨_,⟨b,rfl,hw⟩,⟨_,[],[],[],rfl,rfl,⟨rfl,rfl⟩,⟨rfl,rfl⟩⟩⟩
  ·rename_i hu
   obtain⟨b,rfl,rfl,hw⟩:=DataW.trod_string hu h
   have hw:=hwt b.data.toList.length (by simp[DataW.weights])
   exact⟨_,⟨b,rfl,hw⟩,⟨_,[],[],[],rfl,rfl,⟨rfl,rfl⟩,⟨rfl,rfl⟩⟩⟩
  ·rename_i e hu
   simp only[Bool.and_eq_true,beq_iff_eq,bne_iff_ne] at hp
   obtain⟨⟨⟨p1,p2⟩,p4⟩,p3⟩:=hp
   rcases DataW.trod_slice hu h with⟨rfl,_⟩ | ⟨a,len,cap,elems,rest,m,_,rfl,rfl,hb,hl,hm,hlen,hel,_,_⟩
   ·exact⟨[.sl e []],⟨[],rfl,by simp,fun c hc=>by simp at hc⟩,⟨_,[],[],[],rfl,rfl,⟨rfl,none,0,rfl,Nat.le_refl _,.inl rfl⟩,⟨rfl,rfl⟩⟩⟩
   ·rcases Nat.eq_zero_or_pos len with h0 | h0
    ·subst h0
     exact⟨[.sl e []],⟨[],rfl,by simp,fun c hc=>by simp at hc⟩,⟨_,[],[],[],rfl,rfl,⟨rfl,some a,cap,rfl,by simp,.inl rfl⟩,⟨rfl,rfl⟩⟩⟩
    ·have hwl:len≤reachBytes:=by
      have:=hwt ((elems.length+rest.length)*P.bytesOf e) (by simp[DataW.weights,hu])
      have h1:elems.length+rest.length≤(elems.length+rest.length)*P.bytesOf e:=Nat.le_mul_of_pos_right _ (by omega)
      omega
     have hwe:∀ y,y∈elems→∀ k,k∈y.1.weights P e→k≤reachBytes:=fun y hy k hk=>hwt k (by
      have:k∈DataW.weightsAll P e (elems.map (·.1)):=weightsAll_mem hk (List.mem_map_of_mem hy)
      simp[DataW.weights,hu,this])
     have hcell:∀ i,i<len→∃ cs',w.cells? base (a.add (i*P.cellsOf e)) (P.cellsOf e)=some cs'∧∃ y,DataW.trod enc P w base spare held m e cs'=some y∧y∈elems:=fun i hi=>by
      have hx:=hel i hi
      have hs:elems[i]?=some elems[i]:=by simp[hlen,hi]
      rw[hs] at hx
      cases hc:w.cells? base (a.add (i*P.cellsOf e)) (P.cellsOf e) with
      | none=>rw[hc] at hx;simp at hx
      | some cs'=>rw[hc] at hx;exact⟨cs',rfl,_,hx,List.getElem_mem _⟩
     obtain⟨cs0,hc0,_⟩:=hcell 0 h0
     obtain⟨_,hl0,hg0⟩:=World.cells?_some hc0
     have hg:=hg0 0 (by omega)
     have hadd:(a.add (0*P.cellsOf e)).add 0=a:=by simp[Addr.add]
     rw[hadd] at hg
     obtain⟨b,o,spot⟩:=a
     have hcs0:cs0[0]?=some cs0[0]:=by simp
     rw[hcs0] at hg
     unfold World.cell? at hg
     cases hblk:w.heap[b]? with
     | none=>simp only at hg;rw[hblk] at hg;simp at hg
     | some ob=>
      cases ob with
      | cells arr el fz=>
       simp only at hg
       rw[hblk] at hg
       simp only at hg
       split at hg
       ·simp at hg
       ·rename_i hsp
        have hsp:spot=none:=by cases spot<;>simp_all
        subst hsp
        have hbs:b<w.heap.size:=(Array.getElem?_eq_some_iff.1 hblk).1
        have hcs:∀ i,i<len→∀ cs',w.cells? base ((⟨b,o,none⟩:Addr).add (i*P.cellsOf e)) (P.cellsOf e)=some cs'→cs'=(arr.toList.drop (o+i*P.cellsOf e)).take (P.cellsOf e):=fun i hi cs' hc=>by
         obtain⟨_,hl',hg'⟩:=World.cells?_some hc
         have hadd:∀ j,((⟨b,o,none⟩:Addr).add (i*P.cellsOf e)).add j=⟨b,o+i*P.cellsOf e+j,none⟩:=fun j=>by
          unfold Addr.add
          by_cases e1:i*P.cellsOf e=0<;>by_cases e2:j=0<;>simp[e1,e2]
         have hget:∀ j,j<P.cellsOf e→arr.toList[o+i*P.cellsOf e+j]?=cs'[j]?:=fun j hj=>by
          have:=hg' j hj
          rw[hadd j] at this
          unfold World.cell? at this
          rw[hblk] at this
          simpa using this
         apply List.ext_getElem?
         intro j
         rw[List.getElem?_take,List.getElem?_drop]
         split
         ·rename_i hj;exact (hget j hj).symm
         ·rw[List.getElem?_eq_none];omega
        obtain⟨es,g1,g2,g3⟩:=okEs_mk (sz:=sz) (h:=w.heap) (I:=I) (s:=P.cellsOf e) (Q:=TreeT P n e) len (arr.toList.drop o) (fun i hi=>by
         obtain⟨cs',hc,y,hy,hye⟩:=hcell i hi
         obtain⟨ts,q1,q2⟩:=read_ok hI n m e cs' y p3 hy (hwe y hye)
         have hl':=(World.cells?_some hc).2.1
         have e1:=hcs i hi cs' hc
         refine⟨ts,q1,by rw[←okL_length q2];exact hl',?_⟩
         rw[List.drop_drop,←e1];exact q2)
        refine⟨[.sl e es],⟨es,rfl,by omega,g2⟩,⟨_,[],[],[],rfl,rfl,⟨rfl,some ⟨b,o,none⟩,cap,by rw[g1],by omega,.inr ⟨b,o,arr,el,fz,rfl,hI b hbs,hblk,?_⟩⟩,⟨rfl,rfl⟩⟩⟩
        rw[p1];exact g3
      | _=>simp only at hg;rw[hblk] at hg;simp at hg
  ·rename_i fs hu
   simp only[Bool.and_eq_true,List.all_eq_true] at hp
   obtain⟨p1,p2⟩:=hp
   obtain⟨xs,m,_,rfl,hl,hxs,hf⟩:=DataW.trod_struct hu h
   obtain⟨ts,q1,q2⟩:=read_fields (P:=P) (w:=w) (sz:=sz) (I:=I) (Q:=TreeT P n) fs.toList 0 p1 hl (by omega) (fun f hf'=>by
    obtain⟨i,hi,he⟩:=List.getElem_of_mem hf'
    have hi':i<fs.size:=by simpa using hi
    have h1:fs[i]?=some f:=by rw[←he];simp
    have h2:=hf i f h1
    have h3:xs[i]?=some xs[i]:=by simp
    rw[h3] at h2
    exact read_ok hI n m f.type _ _ (p2 f hf') h2 fun k hk=>hwt k (by
     simp only[DataW.weights,hu]
     exact weightsEach_mem hk (i:=i) (by simp[h1]) (by simp[h3])))
   exact⟨ts,q1,by simpa using q2⟩
  ·simp at hp
end
theorem read_arg {H:Type} {enc:TypeId×Value→H} {P:Program} {w:World} {base:Nat} {spare:Nat→Bool} {held:Bool} {sz:TypeId→Nat} {I:Nat→Prop} (hI:∀ b,b<w.heap.size→I b)
  {n:Nat} {t:TypeId} {v:Value} {d:DataW H} {ps:List MemPlace} (hp:plainT sz P n t=true) (h:DataW.Trod enc P w base spare held t v d ps) (hv:v.cells=#[v]) (hwt:∀ k,k∈d.weights P t→k≤reachBytes):
  ∃ ts,TreeT P n t ts∧okL sz w.heap I ts [v] []:=by
 obtain⟨fuel,hf⟩:=h
 rw[hv] at hf
 exact read_ok hI n fuel t [v] _ hp hf hwt
end Go.TM
namespace Go.TM.Dw
open Go Go.TM Go.Proofs
def viewT (f:Nat):Option View:=none
theorem view_holds {E:Env} (hP:E.P=Tryd.prog):∀ f v,viewT f=some v→ViewOk E f v:=fun f v h=>by simp[viewT] at h
end Go.TM.Dw
