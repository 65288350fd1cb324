/- What functions of the program come to, by the machine. -/
import Derived.Test.YtldklhcklkaplaaGreatDoorTL8
import Derived.ProofKit
import Derived.SizedLaws
import Derived.Shelf.Vars
import Derived.MakeChecks
import Derived.Lay
import Derived.LaidLaws
import Derived.LaidHandle
import Derived.SevenTiedAt
import Derived.Lib.LaidTab
import Derived.OpenVars
import Derived.Test.YtldklhcklkaplaaGreatDoorRows
import Derived.Test.YtldklhcklkaplaaGreatDoorCards
import Derived.Test.YtldklhcklkaplaaGreatDoorTie
import Derived.Test.YtldklhcklkaplaaGreatDoorTL5
import Derived.Test.YtldklhcklkaplaaGreatDoorTL7
import Derived.Test.YtldklhcklkaplaaGreatDoorTE
import Derived.Lib.Join
import Derived.Lib.ItoaLen
import Derived.Lib.ItoaMem
set_option linter.unusedSimpArgs false
set_option linter.unusedVariables false
set_option maxHeartbeats 4000000
namespace Go.TM.It
open Go Go.TM Go.Proofs Go.RowKit Go.ChangeShapes Go.WideShapes
set_option maxRecDepth 20000
def okAll (sz:TypeId→Nat) (h:Array Obj) (I:Nat→Prop):List T→List Value→Prop
 | [],us=>us=[]
 | t::ts,us=>∃ u us',us=u::us'∧okV sz h I t u []∧okAll sz h I ts us'
theorem okArgs_all {sz h I}:∀ {ar:List T} {us:List Value} (i:Nat),okAll sz h I ar us→okArgs sz h I i (ar.map A) us []
 | [],us,i,h=>⟨h,rfl⟩
 | t::ts,us,i,h=>by
  obtain⟨u,us',rfl,h1,h2⟩:=h
  exact⟨u,us',[],[],rfl,rfl,⟨h1,rfl⟩,okArgs_all (i+1) h2⟩
def GlOk (W:Go.World):Prop:=∀ g p,theGl g=some p→g<W.heap.size∧∃ arr el fz,W.heap[g]?=some (.cells arr el fz)∧p arr.toList
theorem law_calls {f:Nat} {ar:List T} {us:List Value} {W:Go.World} (hm:GlOk W) (hl:lends (E.mode f)=false) (h:fo f (ar.map A)=some (R (vB true))) (hok:okAll (szOf E) W.heap (fun b=>b<W.heap.size) ar us):
  Calls Tryz.prog f us.toArray W fun e W'=>e=.returned (.bool true)∧Below W.heap.size W W':=by
 have hs:=(orc_sound able h).1.old hl ⟨W,[],fun b=>b<W.heap.size,fun b hb=>⟨hb,by simp⟩,hm⟩ us (by simp[Uniq]) (by simp) (okArgs_all 0 hok)
 refine Calls.mono hs fun e W' h=>?_
 match e,h with
 | .returned u,h=>
  obtain⟨f,fo,hu,_⟩:=h.ok
  simp only[okV] at hu
  obtain⟨rfl,_⟩:=hu
  exact⟨rfl,⟨h.fr.os,h.fr.tape,h.fr.output,h.fr.size,fun k hk=>h.fr.block k hk (by simp)⟩⟩
section
variable {H:Type} {enc:TypeId×Value→H} {W:Go.World} {base:Nat} {n:Nat} {t:TypeId} {v:Value} {d:DataW H} {p:List MemPlace}
theorem read_cell (hp:plainT (szOf E) Tryz.prog n t=true) (h:DataW.Trod enc Tryz.prog W 0 (fun _=>true) true t v d p) (hv:v.cells=#[v]) (hwt:∀ k,k∈d.weights Tryz.prog t→k≤reachBytes):
  ∃ a,TreeT Tryz.prog n t [a]∧okV (szOf E) W.heap (fun b=>b<W.heap.size) a v []:=by
 obtain⟨ts,ht,hok⟩:=read_arg (sz:=szOf E) (I:=fun b=>b<W.heap.size) (fun b hb=>hb) hp h hv hwt
 match ts,hok with
 | [],hok=>simp[okL] at hok
 | a::ts,hok=>
  simp only[okL] at hok
  obtain⟨u,us',f1,f2,e1,e2,h1,h2⟩:=hok
  obtain⟨rfl,rfl⟩:=List.cons.inj e1
  obtain⟨rfl,rfl⟩:=List.append_eq_nil_iff.1 e2.symm
  cases ts with
  | nil=>exact⟨a,ht,h1⟩
  | cons b ts=>simp[okL] at h2
theorem read_int {k:IntKind} (hu:Tryz.prog.underlying t=some (.int k)) (hp:plainT (szOf E) Tryz.prog n t=true) (h:DataW.Trod enc Tryz.prog W 0 (fun _=>true) true t v d p) (hv:Value.okWide Tryz.prog W .any base t v)
  (hwt:∀ k,k∈d.weights Tryz.prog t→k≤reachBytes):∃ a,TreeT Tryz.prog n t [a]∧okV (szOf E) W.heap (fun b=>b<W.heap.size) a v []:=by
 obtain⟨m,rfl⟩:=okWide_int hu hv
 exact read_cell hp h rfl hwt
theorem read_struct {fs:Array Field} (hu:Tryz.prog.underlying t=some (.struct fs)) (hp:plainT (szOf E) Tryz.prog n t=true) (h:DataW.Trod enc Tryz.prog W 0 (fun _=>true) true t v d p) (hv:Value.okWide Tryz.prog W .any base t v)
  (hwt:∀ k,k∈d.weights Tryz.prog t→k≤reachBytes):∃ cs,TreeT Tryz.prog n t cs∧okV (szOf E) W.heap (fun b=>b<W.heap.size) (.agg cs) v []:=by
 simp only[Value.okWide,hu] at hv
 obtain⟨cs,rfl,_⟩:=hv
 obtain⟨fuel,hf0⟩:=h
 obtain⟨ts,ht,hok⟩:=read_ok (sz:=szOf E) (I:=fun b=>b<W.heap.size) (fun b hb=>hb) n fuel t _ _ hp hf0 hwt
 exact⟨ts,ht,by simp only[okV];exact⟨cs.toList,by simp,hok⟩⟩
end
end Go.TM.It
namespace Go
open Go.TM
theorem returns_laid_shaped {H:Type} {enc:TypeId×Value→H} {a:Assume} {C:Checked} {os:Os} {f:FuncId} {fn:Func} {s:ChangeSpec} {conds:List PathCond} {apart fresh handsOn again:Bool} {X:World→Array Value→Prop}
  (hX:∀ (w w':World) (args:Array Value),w.heap=w'.heap→X w args→X w' args)
  (own:ownKnob C.prog.godebug=none) (started:os.Started) (noInit:C.prog.inits.idxOf? f=none) (hfn:C.prog.funcs[f]?=some fn)
  (witness:∃ (w:World) (tape:Tape) (i:Input),w.os=os∧(w.forCall tape i).Shaped C.prog∧i.vars=[]∧Input.okWide C.prog (w.forCall tape i) .any w.heap.size f i∧
   ((s.pre enc C.prog fn conds apart (w.forCall tape i).memory i.args∧X (w.forCall tape i).memory i.args)∧sizedMet enc C.prog fn (OpenSpec.ofChange s) apart (w.forCall tape i).memory i.args)∧a.holds C.prog (lone (Frame.enter C.prog f i.args .normal) [] (w.forCall tape i)))
  (contract:∀ (W:World) (base:Nat) (args:Array Value) (ds gs:List (DataW H)) (before:List MemPlace),
   (∀ (j:Nat) t v,fn.params[j]?=some t→args[j]?=some v→Value.okWide C.prog W .any base t v)→
   DataW.Whole enc C.prog fn.params.toList s.vars apart W args.toList ds gs before→
   conds.all (PathCond.test C.prog ⟨fn.params.toList,ds,s.plain.varTypes C.prog,gs⟩)=true→
   (DataW.weightsEach C.prog (fn.params.toList++s.plain.varTypes C.prog) (ds++gs)).all (·≤reachBytes)=true→X W args→W.ShapedOpen C.prog→
   Calls C.prog f args W fun e W'=>∃ v,e=.returned v∧s.post enc C.prog fn apart fresh handsOn again W args v W'):
  ReturnsInHanded a C os f .any (fun w args=>(s.pre enc C.prog fn conds apart w args∧X w args)∧sizedMet enc C.prog fn (OpenSpec.ofChange s) apart w args) (s.post enc C.prog fn apart fresh handsOn again):=by
 refine returnsInHanded_of_calls own started noInit witness ?_
 intro w tape i _ hsh _ hok hpre hholds
 obtain⟨_,_,_,fn',hfn',_,_,_,_,hval⟩:=hok
 have e:fn'=fn:=Option.some.inj (hfn'.symm.trans hfn)
 subst e
 obtain⟨⟨⟨ds,gs,before,hw,hc⟩,hx⟩,hz⟩:=hpre
 have hw':=DataW.Whole.of_heap (w':=w.forCall tape i) (by rfl) hw
 refine (contract (w.forCall tape i) w.heap.size i.args ds gs before hval hw' hc (hz.weights hw) (hX _ _ _ (by rfl) hx) hsh).mono fun e W' ⟨v,he,hp⟩=>?_
 subst he
 exact ChangeSpec.post_blind hp
end Go
namespace Go.Proofs.YtldklhcklkaplaaGreatDoor
open Go Go.ChangeShapes Go.WideShapes Go.ChangeAt Go.RowKit Go.TM Go.TM.It
noncomputable abbrev lst4 : List (String × DataW Unit) := [("math/bits.deBruijn32tab", Rows.laid_math_bits_deBruijn32tab), ("math/bits.deBruijn64tab", Rows.laid_math_bits_deBruijn64tab), ("internal/strconv.uint64pow10", Rows.laid_internal_strconv_uint64pow10), ("loop.example/g00343/impl.statusWords", Rows.laid_loop_example_g00343_impl_statusWords)]
theorem lst4_met (os:Os) (args:Array Value):laidMetH Tryz.prog lst4 ((World.laidAll Tryz.prog os lst4).forCall (fun _ _=>0) ⟨#[],args,[]⟩).memory:=by
 rw[MakeChecks.laidMetH_plain _ _ _ (by kernel_rfl)]
 exact laidMet_laidAll args (by kernel_rfl) (by kernel_rfl)
theorem heap_of_var {P:Program} {w:World} {n:String} {g:Nat} {cs:Array Value} (hg:P.globalNamed n=some g) (h:w.var? P n=some cs):∃ el fz,w.heap[g]?=some (.cells cs el fz):=by
 unfold World.var? at h
 rw[hg] at h
 simp only[Option.bind_some] at h
 split at h
 ·rename_i c t fz e
  simp only[Option.some.injEq] at h
  subst h
  exact⟨t,fz,e⟩
 ·cases h
theorem lt_of_heap {w:World} {g:Nat} {o:Obj} (h:w.heap[g]?=some o):g<w.heap.size:=by
 rcases Nat.lt_or_ge g w.heap.size with h1 | h1
 ·exact h1
 ·rw[Array.getElem?_eq_none h1] at h;cases h
section
variable {H:Type} {enc:TypeId×Value→H} {W:World} {base:Nat} {sp:Nat→Bool} {held:Bool} {m:Nat}
theorem row_word {a:Value} {bs:List UInt8} {p:List MemPlace} (h:DataW.trod enc Tryz.prog W base sp held m 9 [a]=some (.lit (.string bs),p)):a=.string ⟨bs.toArray⟩:=by
 obtain⟨s,e1,e2,-⟩:=DataW.trod_string Tryz.underlying9 h
 simp only[Prod.mk.injEq,DataW.lit.injEq,Lit.string.injEq] at e2
 simp only[List.cons.injEq,and_true] at e1
 rw[e1,e2.1]
theorem words_cells {cs:List Value} {p:List MemPlace} (h:DataW.trod enc Tryz.prog W base sp held m 92 cs=some (Rows.laid_loop_example_g00343_impl_statusWords,p)):cs=theWords.flatten:=by
 obtain⟨xs,n',-,hx,hl,hn,hel⟩:=DataW.trod_array Tryz.underlying92 h
 have c9:Tryz.prog.cellsOf 9=1:=by kernel_rfl
 have c92:Tryz.prog.cellsOf 92=3:=by kernel_rfl
 rw[c92] at hl
 rw[c9] at hel
 simp only[Rows.laid_loop_example_g00343_impl_statusWords,Prod.mk.injEq,DataW.agg.injEq] at hx
 obtain⟨hx,-⟩:=hx
 match cs,hl,xs,hn with
 | [a0,a1,a2],_,[x0,x1,x2],_=>
  simp only[List.map_cons,List.map_nil,List.cons.injEq,and_true] at hx
  obtain⟨e0,e1,e2⟩:=hx
  obtain⟨d0,p0⟩:=x0;obtain⟨d1,p1⟩:=x1;obtain⟨d2,p2⟩:=x2
  simp only at e0 e1 e2
  subst e0 e1 e2
  obtain rfl:=row_word (hel 0 (by decide))
  obtain rfl:=row_word (hel 1 (by decide))
  obtain rfl:=row_word (hel 2 (by decide))
  rfl
end
theorem pow_data {H:Type}:(Rows.laid_internal_strconv_uint64pow10:DataW H)=Lib.tabData .u64 Lib.pow10Tab:=rfl
theorem glOk_of {W:World} (h:laidMetH Tryz.prog lst4 W):GlOk W:=by
 rw[MakeChecks.laidMetH_plain _ _ _ (by kernel_rfl)] at h
 obtain⟨ps,⟨_,_,_,_,_,_,_,_,_,_,⟨_,_,_,_,_,_,_,_,_,_,⟨g1,t1,c1,_,_,_,n1,y1,v1,d1,⟨g0,t0,c0,_,_,_,n0,y0,v0,d0,-,-⟩,-⟩,-⟩,-⟩,-,-⟩:=h
 obtain rfl := Option.some.inj ((show Tryz.prog.globalNamed "internal/strconv.uint64pow10" = some 1 by kernel_rfl).symm.trans n1)
 obtain rfl := Option.some.inj ((show Tryz.prog.globalNamed "loop.example/g00343/impl.statusWords" = some 0 by kernel_rfl).symm.trans n0)
 obtain rfl:=Option.some.inj ((show (Tryz.prog.globals[0]?).map (·.type)=some 92 by kernel_rfl).symm.trans y0)
 obtain rfl:=Option.some.inj ((show (Tryz.prog.globals[1]?).map (·.type)=some 197 by kernel_rfl).symm.trans y1)
 rw[pow_data] at d1
 have q1:=Lib.cells_of_tab Tryz.underlying197 Tryz.underlying167 (by kernel_rfl) (by kernel_rfl) d1
 have q0:=words_cells d0
 obtain⟨_,_,k1⟩:=heap_of_var n1 v1
 obtain⟨_,_,k0⟩:=heap_of_var n0 v0
 intro g p hg
 unfold theGl at hg
 split at hg
 ·rename_i hh;subst hh
  simp only[Option.some.injEq] at hg;subst hg
  exact⟨lt_of_heap k0,_,_,_,k0,q0⟩
 split at hg
 ·rename_i hh;subst hh
  simp only[Option.some.injEq] at hg;subst hg
  exact⟨lt_of_heap k1,_,_,_,k1,by rw[q1,pow_tab]⟩
 ·cases hg
end Go.Proofs.YtldklhcklkaplaaGreatDoor
namespace Go.TM.It
open Go Go.TM Go.Proofs
set_option maxRecDepth 20000
attribute [local congr] gif_cg
attribute [local simp] footOf noClash clash upsets setsHit setHits layHits layMeets setsMeet evFeet
theorem f_isLeaf (k:Int):fo 69 [A (vI k)]=some (R (vB (orB (orB (eqI k 2) (eqI k 5)) (eqI k 6)))):=by
 refine orc_69 1 ?_
 simp +contextual -dsimp [Tryz.f69]
theorem f_l4Leaf (k:Int):fo 59 [A (vI k)]=some (R (vB (orB (orB (eqI k 2) (eqI k 5)) (eqI k 6)))):=by
 refine orc_59 1 ?_
 simp +contextual -dsimp [Tryz.f59]
theorem f_leafB (k:Int):fo 69 [A (vI k)]=some (R (vB (leafB k))):=f_isLeaf k
theorem f_leaf4 (k:Int):fo 59 [A (vI k)]=some (R (vB (leafB k))):=f_l4Leaf k
theorem loop26 (all:List Step) (hall:all.length≤1000) (c:Chart) (hca:c.acts.length=all.length):∀ (rest:List Step) (i:Nat) (acc:List Int),all.drop i=rest→acc.length≤i→
  evLoop E (orc E) (47:Nat) (rest.length+1) (loopOf Tryz.f47 0) ⟨33,[(3,.ptr 3 1 [] 0),(5,.ref 5 1 [] 0 acc.length),(9,.sl 112 (all.map (sT 206))),(10,vI all.length),(11,vI i)],[(3,⟨1,1,true,cT c⟩),(5,⟨1,1,false,[.own 2 (iE acc)]⟩)],2⟩=
  some (.exit 0,⟨33,[(3,.ptr 3 1 [] 0),(5,.ref 5 1 [] 0 (acc++opensM c.acts i rest).length),(9,.sl 112 (all.map (sT 206))),(10,vI all.length),(11,vI (i+rest.length:Nat)),(12,vB false)],[(3,⟨1,1,true,cT c⟩),(5,⟨1,1,false,[.own 2 (iE (acc++opensM c.acts i rest))]⟩)],2⟩)
 | [],i,acc,h,ha=>by
  have hge:all.length≤i:=by simpa using h
  have hlt:ltI (i:Int) (all.length:Int)=false:=ltI_f (by omega)
  rw[loop_eq]
  simp +contextual -dsimp [Tryz.f47,hlt,opensM]
 | s::rest,i,acc,h,ha=>by
  obtain⟨hi,hc,hr⟩:=drop_cons h
  have hlt:ltI (i:Int) (all.length:Int)=true:=ltI_t (by omega)
  have hw:IntKind.i64.wrap ((i:Int)+1)=((i+1:Nat):Int):=by rw[wrapI]<;>omega
  have he:i+1+rest.length=i+(rest.length+1):=by omega
  have hm1:acc.length+1≤maxElems:=by unfold maxElems;omega
  have hia:i<c.acts.length:=by omega
  have hs:szAt c.acts (i:Int)=c.acts[i]:=szAt_get hia
  cases q1:leafB s.kind
  ·have ih:=loop26 all hall c hca rest (i+1) acc hr (by omega)
   rw[he] at ih
   have hm:opensM c.acts i (s::rest)=opensM c.acts (i+1) rest:=by simp[opensM,q1,andB]
   rw[hm]
   refine evLoop_next ?_ (by simpa only[List.length_cons] using ih)
   simp (maxSteps:=1000000) +contextual -dsimp [Tryz.f47,hlt,hi,hc,hw,f_leafB,q1,List.set]
  ·cases q2:eqI c.acts[i] 1
   ·have ih:=loop26 all hall c hca rest (i+1) acc hr (by omega)
    rw[he] at ih
    have hm:opensM c.acts i (s::rest)=opensM c.acts (i+1) rest:=by simp[opensM,q1,hs,q2,andB]
    rw[hm]
    refine evLoop_next ?_ (by simpa only[List.length_cons] using ih)
    simp (maxSteps:=1000000) +contextual -dsimp [Tryz.f47,hlt,hi,hc,hw,f_leafB,q1,q2,hia,List.set]
   ·have ih:=loop26 all hall c hca rest (i+1) (acc++[(i:Int)]) hr (by simp;omega)
    rw[he] at ih
    have hm:acc++opensM c.acts i (s::rest)=acc++[(i:Int)]++opensM c.acts (i+1) rest:=by simp[opensM,q1,hs,q2,andB]
    rw[hm]
    refine evLoop_next ?_ (by simpa only[List.length_cons] using ih)
    simp (maxSteps:=1000000) +contextual -dsimp [Tryz.f47,hlt,hi,hc,hw,f_leafB,q1,q2,hia,hm1,List.set]
theorem f_openSteps (l:List Step) (hl:l.length≤1000) (c:Chart) (ha:c.acts.length=l.length):
  fo 47 [A (.sl 112 (l.map (sT 206))),A (.agg (cT c))]=some ⟨.own 2 (iE (opensM c.acts 0 l)),[],true⟩:=by
 have hlp:=loop26 l hl c ha l 0 [] rfl (by simp)
 have hc:cleanEs (iE (opensM c.acts 0 l))=true:=by generalize opensM c.acts 0 l=k;induction k<;>simp_all [cleanEs,cleanL,clean]
 refine orc_47 (l.length+1) ?_
 simp -dsimp [Tryz.f47,iE] at hlp
 simp (maxSteps:=1000000) +contextual -dsimp [Tryz.f47,hlp,hc,List.set]
theorem lp22 (all:List Step) (hall:all.length≤1000) (c:Chart) (hca:c.acts.length=all.length):∀ (rest:List Step) (i:Nat) (acc:List Int),all.drop i=rest→acc.length≤i→
  evLoop E (orc E) (36:Nat) (rest.length+1) (loopOf Tryz.f36 0) ⟨35,[(0,.sl 112 (all.map (sT 206))),(1,.ipt (cT c)),(5,.ref 5 1 [] 0 acc.length),(6,vI i)],[(5,⟨1,1,false,[.own 2 (iE acc)]⟩)],2⟩=
  some (.exit 0,⟨35,[(0,.sl 112 (all.map (sT 206))),(1,.ipt (cT c)),(5,.ref 5 1 [] 0 (acc++opensM c.acts i rest).length),(6,vI (i+rest.length:Nat)),(11,vB false)],[(5,⟨1,1,false,[.own 2 (iE (acc++opensM c.acts i rest))]⟩)],2⟩)
 | [],i,acc,h,ha=>by
  have hge:all.length≤i:=by simpa using h
  have hlt:ltI (i:Int) (all.length:Int)=false:=ltI_f (by omega)
  rw[loop_eq]
  simp +contextual -dsimp [Tryz.f36,hlt,opensM]
 | s::rest,i,acc,h,ha=>by
  obtain⟨hi,hc,hr⟩:=drop_cons h
  have hlt:ltI (i:Int) (all.length:Int)=true:=ltI_t (by omega)
  have hw:IntKind.i64.wrap ((i:Int)+1)=((i+1:Nat):Int):=by rw[wrapI]<;>omega
  have he:i+1+rest.length=i+(rest.length+1):=by omega
  have hm1:acc.length+1≤maxElems:=by unfold maxElems;omega
  have hia:i<c.acts.length:=by omega
  have hs:szAt c.acts (i:Int)=c.acts[i]:=szAt_get hia
  cases q1:leafB s.kind
  ·have ih:=lp22 all hall c hca rest (i+1) acc hr (by omega)
   rw[he] at ih
   have hm:opensM c.acts i (s::rest)=opensM c.acts (i+1) rest:=by simp[opensM,q1,andB]
   rw[hm]
   refine evLoop_next ?_ (by simpa only[List.length_cons] using ih)
   simp (maxSteps:=1000000) +contextual -dsimp [Tryz.f36,hlt,hi,hc,hw,f_leaf4,q1]
  ·cases q2:eqI c.acts[i] 1
   ·have ih:=lp22 all hall c hca rest (i+1) acc hr (by omega)
    rw[he] at ih
    have hm:opensM c.acts i (s::rest)=opensM c.acts (i+1) rest:=by simp[opensM,q1,hs,q2,andB]
    rw[hm]
    refine evLoop_next ?_ (by simpa only[List.length_cons] using ih)
    simp (maxSteps:=1000000) +contextual -dsimp [Tryz.f36,hlt,hi,hc,hw,f_leaf4,q1,q2,hia]
   ·have ih:=lp22 all hall c hca rest (i+1) (acc++[(i:Int)]) hr (by simp;omega)
    rw[he] at ih
    have hm:acc++opensM c.acts i (s::rest)=acc++[(i:Int)]++opensM c.acts (i+1) rest:=by simp[opensM,q1,hs,q2,andB]
    rw[hm]
    refine evLoop_next ?_ (by simpa only[List.length_cons] using ih)
    simp (maxSteps:=1000000) +contextual -dsimp [Tryz.f36,hlt,hi,hc,hw,f_leaf4,q1,q2,hia,hm1,List.set]
theorem f_l9Open (l:List Step) (hl:l.length≤1000) (c:Chart) (ha:c.acts.length=l.length):
  fo 36 [A (.sl 112 (l.map (sT 206))),A (.ipt (cT c))]=some ⟨.own 2 (iE (opensM c.acts 0 l)),[],true⟩:=by
 have hlp:=lp22 l hl c ha l 0 [] rfl (by simp)
 have hc:cleanEs (iE (opensM c.acts 0 l))=true:=by generalize opensM c.acts 0 l=k;induction k<;>simp_all [cleanEs,cleanL,clean]
 refine orc_36 (l.length+1) ?_
 simp -dsimp [Tryz.f36,iE] at hlp
 simp (maxSteps:=1000000) +contextual -dsimp [Tryz.f36,hlp,hc,List.set]
end Go.TM.It
namespace Go.TM.It
open Go Go.TM Go.Proofs
def sp:ByteArray:=⟨#[32]⟩
def nl:ByteArray:=⟨#[10]⟩
def addW (a:ByteArray):List ByteArray→ByteArray
 | []=>a
 | w::r=>addW (a++sp++w) r
theorem data_app (a b:ByteArray):(a++b).data.toList=a.data.toList++b.data.toList:=by simp
theorem ba_ext {a b:ByteArray} (h:a.data.toList=b.data.toList):a=b:=by
 cases a;cases b
 simp only[ByteArray.mk.injEq]
 exact Array.toList_inj.1 h
theorem ba_assoc (a b c:ByteArray):a++b++c=a++(b++c):=ba_ext (by simp[data_app])
theorem addW_data:∀ (r:List ByteArray) (a:ByteArray),(addW a r).data.toList=a.data.toList++Lib.joinTail sp.data.toList (r.map (·.data.toList))
 | [],a=>by simp[addW,Lib.joinTail]
 | w::r,a=>by
  unfold addW
  rw[addW_data r]
  simp[data_app,Lib.joinTail]
theorem join_addW (w:ByteArray) (r:List ByteArray):joinB (w::r) sp=addW w r:=by
 refine ba_ext ?_
 rw[addW_data]
 unfold joinB
 simp[Lib.join_cons]
theorem addW_app:∀ (l r:List ByteArray) (a:ByteArray),addW a (l++r)=addW (addW a l) r
 | [],r,a=>rfl
 | w::l,r,a=>addW_app l r _
def sizes:List ByteArray→Nat
 | []=>0
 | w::r=>w.size+1+sizes r
theorem addW_size:∀ (r:List ByteArray) (a:ByteArray),(addW a r).size=a.size+sizes r
 | [],a=>rfl
 | w::r,a=>by
  unfold addW sizes
  rw[addW_size r]
  have:sp.size=1:=rfl
  simp only[ByteArray.size_append,this]
  omega
theorem join_size (w:ByteArray) (r:List ByteArray):(Lib.join ((w::r).map (·.data.toList)) sp.data.toList).length=w.size+sizes r:=by
 have h:=congrArg ByteArray.size (join_addW w r)
 rw[addW_size] at h
 rw[←h]
 show _=Array.size _
 simp
theorem sizes_le:∀ {r:List ByteArray} {k:Nat},(∀ w,w∈r→w.size≤k)→sizes r≤(k+1)*r.length
 | [],k,_=>by simp[sizes]
 | w::r,k,h=>by
  unfold sizes
  have h1:=h w (by simp)
  have h2:=sizes_le (r:=r) (k:=k) fun x hx=>h x (by simp[hx])
  simp only[List.length_cons,Nat.mul_add,Nat.mul_one]
  omega
theorem decB_size (n:Int) (h0:-1000000000≤n) (h1:n≤1000000000):(decB n).size≤21:=by
 have h:=Lib.itoa_length_le n (by omega) (by omega)
 show Array.size _≤21
 simpa using h
set_option maxRecDepth 20000
attribute [local congr] gif_cg
attribute [local simp] footOf noClash clash upsets setsHit setHits layHits layMeets setsMeet evFeet
section
variable (P:Program) (t:TypeId) (x y:Operand)
theorem pr_c25 (a:Int):pureRun Tryz.prog (convert 2 5 (.int .i64 a))=some (.int .u8 (IntKind.u8.wrap a)):=by kernel_rfl
theorem pr_u8c:pureRun Tryz.prog (isU8Slice 113 9)=some true:=by kernel_rfl
theorem pr_quoX (a b:Int) (h:b≠0):pureRun P (do eqGuard .quo t x y (.int .i64 a) (.int .i64 b);binOp .quo t (.int .i64 a) (.int .i64 b))=some (.int .i64 (IntKind.i64.wrap (Int.tdiv a b))):=by
 unfold binOp
 simp[eqGuard,h,Op.intDiv]
 rfl
theorem pr_rem10 (a:Int):pureRun P (do eqGuard .rem t x y (.int .i64 a) (.int .i64 10);binOp .rem t (.int .i64 a) (.int .i64 10))=some (.int .i64 (Int.tmod a 10)):=rfl
theorem pr_quo10 (a:Int):pureRun P (do eqGuard .quo t x y (.int .i64 a) (.int .i64 10);binOp .quo t (.int .i64 a) (.int .i64 10))=some (.int .i64 (IntKind.i64.wrap (Int.tdiv a 10))):=pr_quoX P t x y a 10 (by omega)
theorem pr_neg (a:Int):pureRun P (Op.unary .neg (.int .i64 a))=some (.int .i64 (IntKind.i64.wrap (0 - a))):=rfl
theorem pr_addS (a b:ByteArray) (h:a.size+b.size<2 ^ 62):pureRun P (do eqGuard .add t x y (.string a) (.string b);binOp .add t (.string a) (.string b))=some (.string (a++b)):=by
 have e:¬ (((a.size+b.size:Nat):Int) > IntKind.i64.max):=by
  have:IntKind.i64.max=9223372036854775807:=rfl
  rw[this];omega
 unfold binOp
 simp only[eqGuard,Op.stringOp,if_neg e]
 rfl
end
def digB (n:Nat):ByteArray:=⟨(Lib.decDigits n).toArray⟩
theorem digB_size (n:Nat) (h:n<1000000001):(digB n).size≤21:=by
 have h1:=Lib.itoa_length_le (n:Int) (by omega) (by omega)
 rw[Lib.itoa_nonneg] at h1
 show Array.size _≤21
 simpa using h1
theorem dig_one (d:Nat) (h:d<10):digB d=⟨#[UInt8.ofNat (48+d)]⟩:=by
 unfold digB
 rw[Lib.decDigits_one h]
theorem dig_more (n:Nat) (h:10≤n):digB n=digB (n / 10)++⟨#[UInt8.ofNat (48+n % 10)]⟩:=by
 refine ba_ext ?_
 rw[data_app]
 unfold digB
 rw[Lib.decDigits,dif_neg (by omega)]
theorem f_dig:∀ (m n:Nat),n≤m→n<1000000001→fo 35 [A (vI n)]=some (R (vS (digB n))):=by
 intro m
 induction m with
 | zero=>
  intro n h1 h2
  obtain rfl:n=0:=by omega
  have q1:ltI 0 0=false:=rfl
  have q2:ltI 0 10=true:=rfl
  rw[dig_one 0 (by omega)]
  refine orc_35 1 ?_
  simp (maxSteps:=1000000) +contextual -dsimp [Tryz.f35,q1,q2,pr_c25,pr_u8c,bytesOfT,List.set]
  all_goals (first | rfl | decide)
 | succ m ih=>
  intro n h1 h2
  have q1:ltI (n:Int) 0=false:=ltI_f (by omega)
  by_cases h:n<10
  ·have q2:ltI (n:Int) 10=true:=ltI_t (by omega)
   have w1:IntKind.i64.wrap (48+(n:Int))=((48+n:Nat):Int):=by rw[wrapI]<;>omega
   have w2:IntKind.u8.wrap ((48+n:Nat):Int)=((48+n:Nat):Int):=by
    show ((48+n:Nat):Int) % 256=_
    omega
   rw[dig_one n h]
   generalize 48+n=k at *
   refine orc_35 1 ?_
   simp (maxSteps:=1000000) +contextual -dsimp [Tryz.f35,q1,q2,w1,w2,pr_c25,pr_u8c,bytesOfT,List.set]
  ·have q2:ltI (n:Int) 10=false:=ltI_f (by omega)
   have g:=ih (n / 10) (by omega) (by omega)
   have w0:Int.tdiv (n:Int) 10=((n / 10:Nat):Int):=by rw[Int.tdiv_eq_ediv_of_nonneg (by omega)];rfl
   have w1:IntKind.i64.wrap ((n / 10:Nat):Int)=((n / 10:Nat):Int):=by rw[wrapI]<;>omega
   have w3:Int.tmod (n:Int) 10=((n % 10:Nat):Int):=by rw[Int.tmod_eq_emod_of_nonneg (by omega)];rfl
   have w4:IntKind.i64.wrap (48+((n % 10:Nat):Int))=((48+n % 10:Nat):Int):=by rw[wrapI]<;>omega
   have w5:IntKind.u8.wrap ((48+n % 10:Nat):Int)=((48+n % 10:Nat):Int):=by
    show ((48+n % 10:Nat):Int) % 256=_
    omega
   have p1:=fun x y=>pr_rem10 Tryz.prog 2 x y (n:Int)
   have p2:=fun x y=>pr_quo10 Tryz.prog 2 x y (n:Int)
   simp only[w0,w1,w3] at p1 p2
   rw[dig_more n (by omega)]
   have hs:(⟨#[UInt8.ofNat (48+n % 10)]⟩:ByteArray).size=1:=rfl
   have hz:=digB_size (n / 10) (by omega)
   have p3:=fun x y=>pr_addS Tryz.prog 9 x y (digB (n / 10)) ⟨#[UInt8.ofNat (48+n % 10)]⟩ (by rw[hs];omega)
   generalize 48+n % 10=k at *
   generalize digB (n / 10)=s at *
   generalize n / 10=d at *
   generalize n % 10=r at *
   refine orc_35 1 ?_
   simp (maxSteps:=1000000) +contextual -dsimp [Tryz.f35,q1,q2,p1,p2,p3,g,w4,w5,pr_c25,pr_u8c,bytesOfT,List.set]
theorem decB_nat (n:Nat):decB (n:Int)=digB n:=by unfold decB digB;rw[Lib.itoa_nonneg]
theorem decB_neg (n:Nat) (h:1≤n):decB (-(n:Int))=⟨#[45]⟩++digB n:=by
 refine ba_ext ?_
 rw[data_app]
 unfold decB digB
 rw[Lib.itoa_neg n h]
 rfl
theorem f_digits (n:Int) (h0:-1000000000≤n) (h1:n≤1000000000):fo 35 [A (vI n)]=some (R (vS (decB n))):=by
 by_cases h:n<0
 ·obtain⟨u,rfl⟩:∃ u:Nat,n=-(u:Int):=⟨n.natAbs,by omega⟩
  have g:=f_dig u u (Nat.le_refl _) (by omega)
  rw[decB_neg u (by omega)]
  have q1:ltI (-(u:Int)) 0=true:=ltI_t (by omega)
  have w1:IntKind.i64.wrap (u:Int)=(u:Int):=by rw[wrapI]<;>omega
  have hz:=digB_size u (by omega)
  have hs:(⟨#[45]⟩:ByteArray).size=1:=rfl
  have p0:=fun (P:Program)=>pr_neg P (-(u:Int))
  have p3:=fun x y=>pr_addS Tryz.prog 9 x y ⟨#[45]⟩ (digB u) (by rw[hs];omega)
  generalize digB u=s at *
  refine orc_35 1 ?_
  simp (maxSteps:=1000000) +contextual -dsimp [Tryz.f35,q1,p0,p3,g,w1,Int.neg_neg,List.set]
 ·obtain⟨u,rfl⟩:∃ u:Nat,n=(u:Int):=⟨n.toNat,by omega⟩
  rw[decB_nat]
  exact f_dig u u (Nat.le_refl _) (by omega)
theorem ext_46 (n:Int) (h0:-1000000000≤n) (h1:n≤1000000000):fo 46 [A (vI n)]=some (R (vS (decB n))):=by
 refine orc_ext (g:=decT) rfl ?_
 have h:-9223372036854775808≤n∧n≤9223372036854775807:=by omega
 unfold decT
 simp only[h,and_self,if_true]
theorem pr_cvtU (a:Int):pureRun Tryz.prog (convert 3 145 (.int .i64 a))=some (.int .u64 (IntKind.u64.wrap a)):=by kernel_rfl
theorem pr_cvtI (a:Int):pureRun Tryz.prog (convert 145 3 (.int .u64 a))=some (.int .i64 (IntKind.i64.wrap a)):=by kernel_rfl
theorem pr_shr1 (P:Program) (t:TypeId) (x y:Operand) (a:Int):pureRun P (do eqGuard .shr t x y (.int .u64 a) (.int .u64 1);binOp .shr t (.int .u64 a) (.int .u64 1))=some (.int .u64 (Int.fdiv a 2)):=rfl
theorem wrapU {x:Int} (h1:0≤x) (h2:x<2 ^ 62):IntKind.u64.wrap x=x:=by
 simp[IntKind.wrap,IntKind.bits,IntKind.signed];omega
def bsM (l:List Claim) (x:Claim):Nat→Nat→Nat→Nat
 | 0,lo,_=>lo
 | n+1,lo,hi=>if lo<hi then (if ltI (cmpC (clAt l ((lo+hi) / 2)) x) 0=true then bsM l x n ((lo+hi) / 2+1) hi else bsM l x n lo ((lo+hi) / 2)) else lo
theorem loopBs (l:List Claim) (x:Claim) (hl:l.length≤60):∀ (n lo hi:Nat),hi - lo≤n→lo≤hi→hi≤l.length→
  evLoop E (orc E) (70:Nat) (n+1) (loopOf Tryz.f70 0) ⟨49,[(0,.sl 68 (l.map kT)),(2,.v (.func (.func (44:Nat)) #[] #[])),(4,.ptr 4 1 [] 0),(8,vI l.length),(9,vI lo),(10,vI hi)],[(4,⟨1,1,true,kT x⟩)],2⟩=
  some (.exit 0,⟨49,[(0,.sl 68 (l.map kT)),(2,.v (.func (.func (44:Nat)) #[] #[])),(4,.ptr 4 1 [] 0),(8,vI l.length),(9,vI (bsM l x n lo hi:Nat)),(10,vI (bsM l x n lo hi:Nat)),(17,vB false)],[(4,⟨1,1,true,kT x⟩)],2⟩)
 | 0,lo,hi,h1,h2,h3=>by
  obtain rfl:lo=hi:=by omega
  have hlt:ltI (lo:Int) (lo:Int)=false:=ltI_f (by omega)
  rw[loop_eq]
  simp +contextual -dsimp [Tryz.f70,hlt,bsM]
 | n+1,lo,hi,h1,h2,h3=>by
  by_cases hlh:lo<hi
  ·have hlt:ltI (lo:Int) (hi:Int)=true:=ltI_t (by omega)
   obtain⟨m,hm⟩:∃ m,m=(lo+hi) / 2:=⟨_,rfl⟩
   have hml:m<l.length:=by omega
   have w1:IntKind.i64.wrap ((lo:Int)+(hi:Int))=(lo:Int)+(hi:Int):=by rw[wrapI]<;>omega
   have w2:IntKind.u64.wrap ((lo:Int)+(hi:Int))=(lo:Int)+(hi:Int):=wrapU (by omega) (by omega)
   have w3:Int.fdiv ((lo:Int)+(hi:Int)) 2=(m:Int):=by rw[Int.fdiv_eq_ediv_of_nonneg _ (by omega)];omega
   have w4:IntKind.i64.wrap (m:Int)=(m:Int):=by rw[wrapI]<;>omega
   have w5:IntKind.i64.wrap ((m:Int)+1)=((m+1:Nat):Int):=by rw[wrapI]<;>omega
   have g:=f_cmpC (l[m]) x
   have hc:clAt l m=l[m]:=by simp[clAt,hml]
   cases q:ltI (cmpC (l[m]) x) 0
   ·have ih:=loopBs l x hl n lo m (by omega) (by omega) (by omega)
    have e:bsM l x (n+1) lo hi=bsM l x n lo m:=by simp[bsM,hlh,←hm,hc,q]
    rw[e]
    refine evLoop_next ?_ ih
    simp (maxSteps:=1000000) +contextual -dsimp [Tryz.f70,hlt,w1,w2,w3,w4,w5,pr_cvtU,pr_cvtI,pr_shr1,hml,g,q,List.set]
   ·have ih:=loopBs l x hl n (m+1) hi (by omega) (by omega) (by omega)
    have e:bsM l x (n+1) lo hi=bsM l x n (m+1) hi:=by simp[bsM,hlh,←hm,hc,q]
    rw[e]
    refine evLoop_next ?_ ih
    simp (maxSteps:=1000000) +contextual -dsimp [Tryz.f70,hlt,w1,w2,w3,w4,w5,pr_cvtU,pr_cvtI,pr_shr1,hml,g,q,List.set]
  ·obtain rfl:lo=hi:=by omega
   have hlt:ltI (lo:Int) (lo:Int)=false:=ltI_f (by omega)
   have e:bsM l x (n+1) lo lo=lo:=by simp[bsM]
   rw[loop_eq,e]
   simp +contextual -dsimp [Tryz.f70,hlt]
theorem bsM_le (l:List Claim) (x:Claim):∀ (n lo hi:Nat),lo≤hi→bsM l x n lo hi≤hi
 | 0,lo,hi,h=>h
 | n+1,lo,hi,h=>by
  unfold bsM
  split
  ·split
   ·exact bsM_le l x n _ hi (by omega)
   ·have:=bsM_le l x n lo ((lo+hi) / 2) (by omega);omega
  ·exact h
def posM (l:List Claim) (x:Claim):Nat:=bsM l x l.length 0 l.length
def hasM (l:List Claim) (x:Claim):Bool:=andB (ltI (posM l x) l.length) (eqI (cmpC (clAt l (posM l x)) x) 0)
theorem f_bs (l:List Claim) (x:Claim) (hl:l.length≤60):fo 70 [A (.sl 68 (l.map kT)),A (.agg (kT x)),A (.v (.func (.func (44:Nat)) #[] #[]))]=some (R (.tup [vI (posM l x),vB (hasM l x)])):=by
 have hlp:=loopBs l x hl l.length 0 l.length (by omega) (by omega) (by omega)
 have hle:=bsM_le l x l.length 0 l.length (by omega)
 unfold hasM posM
 simp -dsimp [Tryz.f70] at hlp
 generalize bsM l x l.length 0 l.length=r at *
 refine orc_70 (l.length+1) ?_
 by_cases hr:r<l.length
 ·have hlt:ltI (r:Int) (l.length:Int)=true:=ltI_t (by omega)
  have g:=f_cmpC (l[r]) x
  have hc:clAt l r=l[r]:=by simp[clAt,hr]
  rw[hc]
  simp (maxSteps:=1000000) +contextual -dsimp [Tryz.f70,hlp,hlt,hr,g,List.set]
 ·have hlt:ltI (r:Int) (l.length:Int)=false:=ltI_f (by omega)
  simp (maxSteps:=1000000) +contextual -dsimp [Tryz.f70,hlp,hlt,List.set]
theorem f_claim (d:Desk) (hl:d.claims.length≤60) (i s:Int):fo 49 [A (.agg (dT d)),A (vI i),A (vI s)]=some (R (.tup [vI (posM d.claims ⟨i,s,0⟩),vB (hasM d.claims ⟨i,s,0⟩)])):=by
 have g:=f_bs d.claims ⟨i,s,0⟩ hl
 refine orc_49 1 ?_
 simp (maxSteps:=1000000) +contextual -dsimp [Tryz.f49,g,List.set]
theorem deskM_all {d:Desk} (h:deskM d=0):engM d.eng=0∧d.claims.length≤60∧claimsM d 0 d.claims=0:=by
 unfold deskM at h
 cases q:eqI (deskA d) 0
 ·rw[q] at h;simp only[notB,Bool.not_false,if_true] at h
  rw[h] at q;simp[eqI] at q
 ·rw[q] at h
  have e0:deskA d=0:=by simpa[eqI] using q
  have z:=first2_zero e0
  have z2:=ci_zero (by omega) z.2
  exact⟨z.1,by simp[ltI] at z2;omega,by simpa[notB] using h⟩
theorem inR_nat1 {i:Int} {n:Nat} (q:inR i 0 ((n:Int) - 1)=true):∃ b:Nat,i=b∧b<n:=by
 simp[inR,andB,leI] at q
 obtain⟨k,hk⟩:=Int.eq_ofNat_of_zero_le q.1
 exact⟨k,hk,by omega⟩
def sameB (c:Claim) (i s:Int):Bool:=andB (eqI c.inst i) (eqI c.step s)
def whoM:List Claim→Int→Int→Int
 | [],_,_=>0
 | c::r,i,s=>if sameB c i s=true then c.user else whoM r i s
theorem lp95 (d:Desk) (hl:d.claims.length≤1048576) (i s:Int):∀ (rest:List Claim) (k:Nat),d.claims.drop k=rest→(∀ c,c∈rest→sameB c i s=false)→
  evLoop E (orc E) (37:Nat) (rest.length+1) (loopOf Tryz.f37 0) ⟨47,[(0,.ipt (dT d)),(1,vI i),(2,vI s),(7,vI k)],[],2⟩=
  some (.exit 0,⟨47,[(0,.ipt (dT d)),(1,vI i),(2,vI s),(7,vI (k+rest.length:Nat)),(14,vB false)],[],2⟩)
 | [],k,h,_=>by
  have hge:d.claims.length≤k:=by simpa using h
  have hlt:ltI (k:Int) (d.claims.length:Int)=false:=ltI_f (by omega)
  rw[loop_eq]
  simp +contextual -dsimp [Tryz.f37,hlt]
 | c::rest,k,h,hn=>by
  obtain⟨hi,hc,hr⟩:=drop_cons h
  have hlt:ltI (k:Int) (d.claims.length:Int)=true:=ltI_t (by omega)
  have hw:IntKind.i64.wrap ((k:Int)+1)=((k+1:Nat):Int):=by rw[wrapI]<;>omega
  have he:k+1+rest.length=k+(rest.length+1):=by omega
  have ih:=lp95 d hl i s rest (k+1) hr fun c hc=>hn c (by simp[hc])
  rw[he] at ih
  have q:=hn c (by simp)
  unfold sameB at q
  refine evLoop_next ?_ (by simpa only[List.length_cons] using ih)
  simp (maxSteps:=1000000) +contextual -dsimp [Tryz.f37,hlt,hi,hc,hw,q,List.set]
theorem lp95t (d:Desk) (hl:d.claims.length≤1048576) (i s:Int):∀ (rest:List Claim) (k:Nat),d.claims.drop k=rest→(∃ c,c∈rest∧sameB c i s=true)→
  evLoop E (orc E) (37:Nat) (rest.length+1) (loopOf Tryz.f37 0) ⟨47,[(0,.ipt (dT d)),(1,vI i),(2,vI s),(7,vI k)],[],2⟩=
  some (.ret,⟨47,[(6,vI (whoM rest i s))],[],2⟩)
 | [],k,h,hx=>by obtain⟨c,hc,_⟩:=hx;simp at hc
 | c::rest,k,h,hx=>by
  obtain⟨hi,hc,hr⟩:=drop_cons h
  have hlt:ltI (k:Int) (d.claims.length:Int)=true:=ltI_t (by omega)
  have hw:IntKind.i64.wrap ((k:Int)+1)=((k+1:Nat):Int):=by rw[wrapI]<;>omega
  cases q:sameB c i s
  ·have ih:=lp95t d hl i s rest (k+1) hr (by
    obtain⟨c',hc',q'⟩:=hx
    rcases List.mem_cons.1 hc' with rfl | hc'
    ·rw[q] at q';cases q'
    ·exact⟨c',hc',q'⟩)
   have hm:whoM (c::rest) i s=whoM rest i s:=by simp[whoM,q]
   rw[hm]
   unfold sameB at q
   refine evLoop_next ?_ (by simpa only[List.length_cons] using ih)
   simp (maxSteps:=1000000) +contextual -dsimp [Tryz.f37,hlt,hi,hc,hw,q,List.set]
  ·have hm:whoM (c::rest) i s=c.user:=by simp[whoM,q]
   rw[hm]
   unfold sameB at q
   refine evLoop_out ?_ (by simp)
   simp (maxSteps:=1000000) +contextual -dsimp [Tryz.f37,hlt,hi,hc,q,List.set]
theorem whoM_none {i s:Int}:∀ {l:List Claim},(∀ c,c∈l→sameB c i s=false)→whoM l i s=0
 | [],_=>rfl
 | c::l,h=>by
  simp only[whoM,h c (by simp)]
  exact whoM_none fun c hc=>h c (by simp[hc])
theorem f_l12Who (d:Desk) (hl:d.claims.length≤1048576) (i s:Int):fo 37 [A (.ipt (dT d)),A (vI i),A (vI s)]=some (R (vI (whoM d.claims i s))):=by
 refine orc_37 (d.claims.length+1) ?_
 by_cases h:∃ c,c∈d.claims∧sameB c i s=true
 ·have hlp:=lp95t d hl i s d.claims 0 rfl h
  simp -dsimp [Tryz.f37] at hlp
  simp (maxSteps:=1000000) +contextual -dsimp [Tryz.f37,hlp,List.set]
 ·have hn:∀ c,c∈d.claims→sameB c i s=false:=fun c hc=>by
   cases q:sameB c i s
   ·rfl
   ·exact absurd ⟨c,hc,q⟩ h
  have hlp:=lp95 d hl i s d.claims 0 rfl hn
  simp -dsimp [Tryz.f37] at hlp
  rw[whoM_none hn]
  simp (maxSteps:=1000000) +contextual -dsimp [Tryz.f37,hlp,List.set]
def keepB (i s:Int) (c:Claim):Bool:=orB (notB (eqI c.inst i)) (notB (eqI c.step s))
def withoutM (l:List Claim) (i s:Int):List Claim:=l.filter (keepB i s)
end Go.TM.It
