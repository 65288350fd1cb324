/- What functions of the program come to, by the machine. -/
import Derived.Test.YtlnbadnlphecjaaDoorQL1
import Derived.ProofKit
import Derived.SizedLaws
import Derived.Shelf.Vars
set_option linter.unusedSimpArgs false
set_option linter.unusedVariables false
set_option maxHeartbeats 16000000
namespace Go.TM.Dw
open Go Go.TM Go.Proofs
set_option maxRecDepth 20000
attribute [local congr] gif_cg
attribute [local simp] footOf noClash clash upsets setsHit setHits layHits layMeets setsMeet evFeet
theorem f_LawW (s:ByteArray):fo 3 [A (vS s)]=some (R (vB true)):=by
 cases c0:ltI 1048576 (s.size:Int)
 rotate_left
 ·refine orc_3 1 ?_
  simp (maxSteps:=1000000) +contextual -dsimp [Tryd.f3,c0,List.set]
 have hs:s.size≤1048576:=by
  rcases Nat.lt_or_ge 1048576 s.size with h | h
  ·rw[ltI_t (by omega)] at c0;simp at c0
  ·exact h
 have hl:=wds_len s
 have r1:=f4_WordsOf s hs
 have r2:=f_WordsOf s hs
 generalize wds s=l at *
 have qx:=g_eqTR l (by omega)
 obtain⟨dx,mx⟩:=o_markTR l 1 (by omega) (by omega) (by omega)
 have hx:=o_heldTR l 1 (by omega) (by omega) (by omega)
 have n2:ltI (1+(l.length:Int)) 0=false:=ltI_f (by omega)
 have hly:(mksW 1 l).length=l.length:=mksW_len 1 l
 generalize 1+(l.length:Int)=ax at *
 generalize mksW 1 l=y at *
 have t1:=osealed_W l
 have t2:=osealed_W y
 have t3:=oclean_W l
 have t4:=oclean_W y
 refine orc_3 1 ?_
 simp (maxSteps:=4000000) +contextual -dsimp [Tryd.f3,c0,r1,r2,qx,mx,hx,hly,n2,t1,t2,t3,t4,eqI_self,lendEff,lendOne,lendMany,firstRef,lendRow,lendCell,putRow,putBack,valArg,List.set]
end Go.TM.Dw
namespace Go.TM.Dw
open Go Go.TM Go.Proofs Go.RowKit Go.ChangeShapes Go.WideShapes
set_option maxRecDepth 20000
def okAll (sz:TypeId→Nat) (h:Array Obj) (I:Nat→Prop):List T→List Value→Prop
 | [],us=>us=[]
 | t::ts,us=>∃ u us',us=u::us'∧okV sz h I t u []∧okAll sz h I ts us'
theorem okArgs_all {sz h I}:∀ {ar:List T} {us:List Value} (i:Nat),okAll sz h I ar us→okArgs sz h I i (ar.map A) us []
 | [],us,i,h=>⟨h,rfl⟩
 | t::ts,us,i,h=>by
  obtain⟨u,us',rfl,h1,h2⟩:=h
  exact⟨u,us',[],[],rfl,rfl,⟨h1,rfl⟩,okArgs_all (i+1) h2⟩
theorem cells_of {W:World} {m:Int} (h:W.cell? ⟨1,0,none⟩=some (.int .i64 m)):1<W.heap.size∧∃ arr el fz,W.heap[1]?=some (.cells arr el fz)∧∃ m,arr.toList[0]?=some (.int .i64 m):=by
 unfold World.cell? at h
 split at h
 ·rename_i c t fz e
  have hlt:1<W.heap.size:=by
   rcases Nat.lt_or_ge 1 W.heap.size with h1 | h1
   ·exact h1
   ·rw[Array.getElem?_eq_none h1] at e;simp at e
  refine⟨hlt,c,t,fz,e,m,?_⟩
  simpa using h
 ·simp at h
theorem law_calls {f:Nat} {ar:List T} {us:List Value} {W:Go.World} {m:Int} (hm:W.cell? ⟨1,0,none⟩=some (.int .i64 m)) (hl:lends (E.mode f)=false) (h:fo f (ar.map A)=some (R (vB true))) (hok:okAll (szOf E) W.heap (fun b=>b<W.heap.size) ar us):
  Calls Tryd.prog f us.toArray W fun e W'=>e=.returned (.bool true)∧Below W.heap.size W W':=by
 have hs:=(orc_sound able h).1.old hl ⟨W,[],fun b=>b<W.heap.size,fun b hb=>⟨hb,by simp⟩,fun g p hg=>by
  unfold theGl at hg
  split at hg
  ·rename_i e
   subst e
   simp only[Option.some.injEq] at hg
   subst hg
   exact cells_of hm
  ·simp at hg⟩ us (by simp[Uniq]) (by simp) (okArgs_all 0 hok)
 refine Calls.mono hs fun e W' h=>?_
 match e,h with
 | .returned u,h=>
  obtain⟨f,fo,hu,_⟩:=h.ok
  simp only[okV] at hu
  obtain⟨rfl,_⟩:=hu
  exact⟨rfl,⟨h.fr.os,h.fr.tape,h.fr.output,h.fr.size,fun k hk=>h.fr.block k hk (by simp)⟩⟩
theorem law_string {W:Go.World} {m:Int} (hm:W.cell? ⟨1,0,none⟩=some (.int .i64 m)) (s:ByteArray):
  Calls Tryd.prog 3 #[.string s] W fun e W'=>e=.returned (.bool true)∧Below W.heap.size W W':=
 law_calls (ar:=[vS s]) (us:=[.string s]) hm rfl (f_LawW s) ⟨_,_,rfl,by simp[okV],rfl⟩
end Go.TM.Dw
namespace Go
open Go.TM
theorem returns_laid_shaped {H:Type} {enc:TypeId×Value→H} {a:Assume} {C:Checked} {os:Os} {f:FuncId} {fn:Func} {s:ChangeSpec} {conds:List PathCond} {apart fresh handsOn again:Bool} {X:World→Array Value→Prop}
  (hX:∀ (w w':World) (args:Array Value),w.heap=w'.heap→X w args→X w' args)
  (own:ownKnob C.prog.godebug=none) (started:os.Started) (noInit:C.prog.inits.idxOf? f=none) (hfn:C.prog.funcs[f]?=some fn)
  (witness:∃ (w:World) (tape:Tape) (i:Input),w.os=os∧(w.forCall tape i).Shaped C.prog∧i.vars=[]∧Input.okWide C.prog (w.forCall tape i) .any w.heap.size f i∧
   ((s.pre enc C.prog fn conds apart (w.forCall tape i).memory i.args∧X (w.forCall tape i).memory i.args)∧sizedMet enc C.prog fn (OpenSpec.ofChange s) apart (w.forCall tape i).memory i.args)∧a.holds C.prog (lone (Frame.enter C.prog f i.args .normal) [] (w.forCall tape i)))
  (contract:∀ (W:World) (base:Nat) (args:Array Value) (ds gs:List (DataW H)) (before:List MemPlace),
   (∀ (j:Nat) t v,fn.params[j]?=some t→args[j]?=some v→Value.okWide C.prog W .any base t v)→
   DataW.Whole enc C.prog fn.params.toList s.vars apart W args.toList ds gs before→
   conds.all (PathCond.test C.prog ⟨fn.params.toList,ds,s.plain.varTypes C.prog,gs⟩)=true→
   (DataW.weightsEach C.prog (fn.params.toList++s.plain.varTypes C.prog) (ds++gs)).all (·≤reachBytes)=true→X W args→W.ShapedOpen C.prog→
   Calls C.prog f args W fun e W'=>∃ v,e=.returned v∧s.post enc C.prog fn apart fresh handsOn again W args v W'):
  ReturnsInHanded a C os f .any (fun w args=>(s.pre enc C.prog fn conds apart w args∧X w args)∧sizedMet enc C.prog fn (OpenSpec.ofChange s) apart w args) (s.post enc C.prog fn apart fresh handsOn again):=by
 refine returnsInHanded_of_calls own started noInit witness ?_
 intro w tape i _ hsh _ hok hpre hholds
 obtain⟨_,_,_,fn',hfn',_,_,_,_,hval⟩:=hok
 have e:fn'=fn:=Option.some.inj (hfn'.symm.trans hfn)
 subst e
 obtain⟨⟨⟨ds,gs,before,hw,hc⟩,hx⟩,hz⟩:=hpre
 have hw':=DataW.Whole.of_heap (w':=w.forCall tape i) (by rfl) hw
 refine (contract (w.forCall tape i) w.heap.size i.args ds gs before hval hw' hc (hz.weights hw) (hX _ _ _ (by rfl) hx) hsh).mono fun e W' ⟨v,he,hp⟩=>?_
 subst he
 exact ChangeSpec.post_blind hp
end Go
