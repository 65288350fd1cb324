/- What functions of the program come to, by the machine. -/
import Derived.Test.YtbpdikmponmmpaaDoorKL1
import Derived.ProofKit
import Derived.SizedLaws
import Derived.Shelf.Vars
import Derived.MakeChecks
import Derived.Lay
import Derived.LaidLaws
import Derived.LaidHandle
import Derived.SevenTiedAt
import Derived.Lib.LaidTab
import Derived.Test.YtbpdikmponmmpaaDoorRows
import Derived.Test.YtbpdikmponmmpaaDoorCards
import Derived.Test.YtbpdikmponmmpaaDoorTie
import Derived.Lib.ParseIntB
import Derived.Lib.ItoaNum
set_option linter.unusedSimpArgs false
set_option linter.unusedVariables false
set_option maxHeartbeats 4000000
namespace Go.TM.Dw
open Go Go.TM Go.Proofs Go.RowKit Go.ChangeShapes Go.WideShapes
set_option maxRecDepth 20000
def okAll (sz:TypeId→Nat) (h:Array Obj) (I:Nat→Prop):List T→List Value→Prop
 | [],us=>us=[]
 | t::ts,us=>∃ u us',us=u::us'∧okV sz h I t u []∧okAll sz h I ts us'
theorem okArgs_all {sz h I}:∀ {ar:List T} {us:List Value} (i:Nat),okAll sz h I ar us→okArgs sz h I i (ar.map A) us []
 | [],us,i,h=>⟨h,rfl⟩
 | t::ts,us,i,h=>by
  obtain⟨u,us',rfl,h1,h2⟩:=h
  exact⟨u,us',[],[],rfl,rfl,⟨h1,rfl⟩,okArgs_all (i+1) h2⟩
theorem cells_of {W:World} {m:Int} (h:W.cell? ⟨1,0,none⟩=some (.int .i64 m)):1<W.heap.size∧∃ arr el fz,W.heap[1]?=some (.cells arr el fz)∧∃ m,arr.toList[0]?=some (.int .i64 m):=by
 unfold World.cell? at h
 split at h
 ·rename_i c t fz e
  have hlt:1<W.heap.size:=by
   rcases Nat.lt_or_ge 1 W.heap.size with h1 | h1
   ·exact h1
   ·rw[Array.getElem?_eq_none h1] at e;simp at e
  refine⟨hlt,c,t,fz,e,m,?_⟩
  simpa using h
 ·simp at h
def GlOk (W:Go.World):Prop:=∀ g p,theGl g=some p→g<W.heap.size∧∃ arr el fz,W.heap[g]?=some (.cells arr el fz)∧p arr.toList
theorem law_calls {f:Nat} {ar:List T} {us:List Value} {W:Go.World} (hm:GlOk W) (hl:lends (E.mode f)=false) (h:fo f (ar.map A)=some (R (vB true))) (hok:okAll (szOf E) W.heap (fun b=>b<W.heap.size) ar us):
  Calls Tryd.prog f us.toArray W fun e W'=>e=.returned (.bool true)∧Below W.heap.size W W':=by
 have hs:=(orc_sound able h).1.old hl ⟨W,[],fun b=>b<W.heap.size,fun b hb=>⟨hb,by simp⟩,hm⟩ us (by simp[Uniq]) (by simp) (okArgs_all 0 hok)
 refine Calls.mono hs fun e W' h=>?_
 match e,h with
 | .returned u,h=>
  obtain⟨f,fo,hu,_⟩:=h.ok
  simp only[okV] at hu
  obtain⟨rfl,_⟩:=hu
  exact⟨rfl,⟨h.fr.os,h.fr.tape,h.fr.output,h.fr.size,fun k hk=>h.fr.block k hk (by simp)⟩⟩
end Go.TM.Dw
namespace Go
open Go.TM
theorem returns_laid_shaped {H:Type} {enc:TypeId×Value→H} {a:Assume} {C:Checked} {os:Os} {f:FuncId} {fn:Func} {s:ChangeSpec} {conds:List PathCond} {apart fresh handsOn again:Bool} {X:World→Array Value→Prop}
  (hX:∀ (w w':World) (args:Array Value),w.heap=w'.heap→X w args→X w' args)
  (own:ownKnob C.prog.godebug=none) (started:os.Started) (noInit:C.prog.inits.idxOf? f=none) (hfn:C.prog.funcs[f]?=some fn)
  (witness:∃ (w:World) (tape:Tape) (i:Input),w.os=os∧(w.forCall tape i).Shaped C.prog∧i.vars=[]∧Input.okWide C.prog (w.forCall tape i) .any w.heap.size f i∧
   ((s.pre enc C.prog fn conds apart (w.forCall tape i).memory i.args∧X (w.forCall tape i).memory i.args)∧sizedMet enc C.prog fn (OpenSpec.ofChange s) apart (w.forCall tape i).memory i.args)∧a.holds C.prog (lone (Frame.enter C.prog f i.args .normal) [] (w.forCall tape i)))
  (contract:∀ (W:World) (base:Nat) (args:Array Value) (ds gs:List (DataW H)) (before:List MemPlace),
   (∀ (j:Nat) t v,fn.params[j]?=some t→args[j]?=some v→Value.okWide C.prog W .any base t v)→
   DataW.Whole enc C.prog fn.params.toList s.vars apart W args.toList ds gs before→
   conds.all (PathCond.test C.prog ⟨fn.params.toList,ds,s.plain.varTypes C.prog,gs⟩)=true→
   (DataW.weightsEach C.prog (fn.params.toList++s.plain.varTypes C.prog) (ds++gs)).all (·≤reachBytes)=true→X W args→W.ShapedOpen C.prog→
   Calls C.prog f args W fun e W'=>∃ v,e=.returned v∧s.post enc C.prog fn apart fresh handsOn again W args v W'):
  ReturnsInHanded a C os f .any (fun w args=>(s.pre enc C.prog fn conds apart w args∧X w args)∧sizedMet enc C.prog fn (OpenSpec.ofChange s) apart w args) (s.post enc C.prog fn apart fresh handsOn again):=by
 refine returnsInHanded_of_calls own started noInit witness ?_
 intro w tape i _ hsh _ hok hpre hholds
 obtain⟨_,_,_,fn',hfn',_,_,_,_,hval⟩:=hok
 have e:fn'=fn:=Option.some.inj (hfn'.symm.trans hfn)
 subst e
 obtain⟨⟨⟨ds,gs,before,hw,hc⟩,hx⟩,hz⟩:=hpre
 have hw':=DataW.Whole.of_heap (w':=w.forCall tape i) (by rfl) hw
 refine (contract (w.forCall tape i) w.heap.size i.args ds gs before hval hw' hc (hz.weights hw) (hX _ _ _ (by rfl) hx) hsh).mono fun e W' ⟨v,he,hp⟩=>?_
 subst he
 exact ChangeSpec.post_blind hp
end Go
namespace Go.Proofs.YtbpdikmponmmpaaDoor
open Go Go.ChangeShapes Go.WideShapes Go.ChangeAt Go.RowKit Go.TM Go.TM.Dw
noncomputable abbrev lst8 : List (String × DataW Unit) := [("math/bits.deBruijn32tab", Rows.laid_math_bits_deBruijn32tab), ("math/bits.deBruijn64tab", Rows.laid_math_bits_deBruijn64tab), ("internal/strconv.uint64pow10", Rows.laid_internal_strconv_uint64pow10), ("unicode/utf8.acceptRanges", Rows.laid_unicode_utf8_acceptRanges), ("strconv.ErrRange", Rows.laid_strconv_ErrRange), ("strconv.ErrSyntax", Rows.laid_strconv_ErrSyntax), ("loop.example/g00343/impl.forms", Rows.laid_loop_example_g00343_impl_forms), ("unicode/utf8.first", Rows.laid_unicode_utf8_first)]
theorem lst8_met (os:Os) (args:Array Value):laidMetH Tryd.prog lst8 ((World.laidAll Tryd.prog os lst8).forCall (fun _ _=>0) ⟨#[],args,[]⟩).memory:=by
 rw[MakeChecks.laidMetH_plain _ _ _ (by kernel_rfl)]
 exact laidMet_laidAll args (by kernel_rfl) (by kernel_rfl)
theorem heap_of_var {P:Program} {w:World} {n:String} {g:Nat} {cs:Array Value} (hg:P.globalNamed n=some g) (h:w.var? P n=some cs):∃ el fz,w.heap[g]?=some (.cells cs el fz):=by
 unfold World.var? at h
 rw[hg] at h
 simp only[Option.bind_some] at h
 split at h
 ·rename_i c t fz e
  simp only[Option.some.injEq] at h
  subst h
  exact⟨t,fz,e⟩
 ·cases h
theorem lt_of_heap {w:World} {g:Nat} {o:Obj} (h:w.heap[g]?=some o):g<w.heap.size:=by
 rcases Nat.lt_or_ge g w.heap.size with h1 | h1
 ·exact h1
 ·rw[Array.getElem?_eq_none h1] at h;cases h
section
variable {H:Type} {enc:TypeId×Value→H} {W:World} {base:Nat} {sp:Nat→Bool} {held:Bool} {m:Nat}
theorem row_form {a b:Value} {bs:List UInt8} {n:Int} {p:List MemPlace} (h:DataW.trod enc Tryd.prog W base sp held m 52 [a,b]=some (.agg [.lit (.string bs),.lit (.int .i64 n)],p)):a=.string ⟨bs.toArray⟩∧b=.int .i64 n:=by
 obtain⟨y0,y1,n',hx,-,h0,h1⟩:=trod_struct2 Tryd.underlying52 h
 have c9:Tryd.prog.cellsOf 9=1:=by kernel_rfl
 have c3:Tryd.prog.cellsOf 3=1:=by kernel_rfl
 simp only[c9,c3,List.drop_zero,List.take_succ_cons,List.take_zero,List.drop_succ_cons] at h0 h1
 obtain⟨s,e1,e2,-⟩:=DataW.trod_string Tryd.underlying9 h0
 obtain⟨z,e3,e4,-⟩:=DataW.trod_int Tryd.underlying3 h1
 simp only[Prod.mk.injEq,DataW.agg.injEq,List.cons.injEq,and_true] at hx
 obtain⟨⟨q1,q2⟩,-⟩:=hx
 rw[e2] at q1
 rw[e4] at q2
 simp only[DataW.lit.injEq,Lit.string.injEq,Lit.int.injEq,true_and] at q1 q2
 simp only[List.cons.injEq,and_true] at e1 e3
 exact⟨by rw[e1,q1],by rw[e3,q2]⟩
theorem forms_cells {cs:List Value} {p:List MemPlace} (h:DataW.trod enc Tryd.prog W base sp held m 53 cs=some (Rows.laid_loop_example_g00343_impl_forms,p)):cs=theForms.flatten:=by
 obtain⟨xs,n',-,hx,hl,hn,hel⟩:=DataW.trod_array Tryd.underlying53 h
 have c52:Tryd.prog.cellsOf 52=2:=by kernel_rfl
 have c53:Tryd.prog.cellsOf 53=14:=by kernel_rfl
 rw[c53] at hl
 rw[c52] at hel
 simp only[Rows.laid_loop_example_g00343_impl_forms,Prod.mk.injEq,DataW.agg.injEq] at hx
 obtain⟨hx,-⟩:=hx
 match cs,hl,xs,hn with
 | [a0,b0,a1,b1,a2,b2,a3,b3,a4,b4,a5,b5,a6,b6],_,[x0,x1,x2,x3,x4,x5,x6],_=>
  simp only[List.map_cons,List.map_nil,List.cons.injEq,and_true] at hx
  obtain⟨e0,e1,e2,e3,e4,e5,e6⟩:=hx
  obtain⟨d0,p0⟩:=x0;obtain⟨d1,p1⟩:=x1;obtain⟨d2,p2⟩:=x2;obtain⟨d3,p3⟩:=x3;obtain⟨d4,p4⟩:=x4;obtain⟨d5,p5⟩:=x5;obtain⟨d6,p6⟩:=x6
  simp only at e0 e1 e2 e3 e4 e5 e6
  subst e0 e1 e2 e3 e4 e5 e6
  obtain⟨rfl,rfl⟩:=row_form (hel 0 (by decide))
  obtain⟨rfl,rfl⟩:=row_form (hel 1 (by decide))
  obtain⟨rfl,rfl⟩:=row_form (hel 2 (by decide))
  obtain⟨rfl,rfl⟩:=row_form (hel 3 (by decide))
  obtain⟨rfl,rfl⟩:=row_form (hel 4 (by decide))
  obtain⟨rfl,rfl⟩:=row_form (hel 5 (by decide))
  obtain⟨rfl,rfl⟩:=row_form (hel 6 (by decide))
  rfl
end
theorem pow_cells:(Lib.pow10Tab.map fun z=>Value.int .u64 z)=thePows:=pow_tab
theorem pow_data {H:Type}:(Rows.laid_internal_strconv_uint64pow10:DataW H)=Lib.tabData .u64 Lib.pow10Tab:=rfl
theorem glOk_of {W:World} (h:laidMetH Tryd.prog lst8 W) (hsh:W.ShapedOpen Tryd.prog):GlOk W:=by
 rw[MakeChecks.laidMetH_plain _ _ _ (by kernel_rfl)] at h
 obtain⟨ps,⟨_,_,_,_,_,_,_,_,_,_,⟨_,_,_,_,_,_,_,_,_,_,⟨g6,t6,c6,_,_,_,n6,y6,v6,d6,⟨_,_,_,_,_,_,_,_,_,_,⟨g3,t3,c3,_,_,_,n3,y3,v3,d3,⟨g2,t2,c2,_,_,_,n2,y2,v2,d2,⟨g0,t0,c0,_,_,_,n0,y0,v0,d0,-,-⟩,-⟩,-⟩,-⟩,-⟩,-⟩,-⟩,-,-⟩:=h
 obtain⟨m,hm⟩:=cell_of_shapedOpen_int (zero:=#[.int .i64 0]) (t:=3) (g:=1) hsh (of_decide_eq_true (by kernel_rfl)) (by kernel_rfl) rfl (by kernel_rfl) (by kernel_rfl) Tryd.underlying3
 obtain rfl := Option.some.inj ((show Tryd.prog.globalNamed "internal/strconv.uint64pow10" = some 6 by kernel_rfl).symm.trans n6)
 obtain rfl := Option.some.inj ((show Tryd.prog.globalNamed "strconv.ErrRange" = some 3 by kernel_rfl).symm.trans n3)
 obtain rfl := Option.some.inj ((show Tryd.prog.globalNamed "strconv.ErrSyntax" = some 2 by kernel_rfl).symm.trans n2)
 obtain rfl := Option.some.inj ((show Tryd.prog.globalNamed "loop.example/g00343/impl.forms" = some 0 by kernel_rfl).symm.trans n0)
 obtain rfl:=Option.some.inj ((show (Tryd.prog.globals[0]?).map (·.type)=some 53 by kernel_rfl).symm.trans y0)
 obtain rfl:=Option.some.inj ((show (Tryd.prog.globals[2]?).map (·.type)=some 62 by kernel_rfl).symm.trans y2)
 obtain rfl:=Option.some.inj ((show (Tryd.prog.globals[3]?).map (·.type)=some 62 by kernel_rfl).symm.trans y3)
 obtain rfl:=Option.some.inj ((show (Tryd.prog.globals[6]?).map (·.type)=some 105 by kernel_rfl).symm.trans y6)
 rw[pow_data] at d6
 have q6:=Lib.cells_of_tab Tryd.underlying105 Tryd.underlying75 (by kernel_rfl) (by kernel_rfl) d6
 have q0:=forms_cells d0
 obtain⟨_,u3',v3',e3,-,-⟩:=iface_of_trod Tryd.underlying62 d3
 obtain⟨_,u2',v2',e2,-,-⟩:=iface_of_trod Tryd.underlying62 d2
 obtain⟨_,_,k6⟩:=heap_of_var n6 v6
 obtain⟨_,_,k3⟩:=heap_of_var n3 v3
 obtain⟨_,_,k2⟩:=heap_of_var n2 v2
 obtain⟨_,_,k0⟩:=heap_of_var n0 v0
 intro g p hg
 unfold theGl at hg
 split at hg
 ·rename_i hh;subst hh
  simp only[Option.some.injEq] at hg;subst hg
  exact⟨lt_of_heap k0,_,_,_,k0,q0⟩
 split at hg
 ·rename_i hh;subst hh
  simp only[Option.some.injEq] at hg;subst hg
  exact cells_of hm
 split at hg
 ·rename_i hh;subst hh
  simp only[Option.some.injEq] at hg;subst hg
  exact⟨lt_of_heap k2,_,_,_,k2,_,by rw[e2];rfl,.inr ⟨_,_,rfl⟩⟩
 split at hg
 ·rename_i hh;subst hh
  simp only[Option.some.injEq] at hg;subst hg
  exact⟨lt_of_heap k3,_,_,_,k3,_,by rw[e3];rfl,.inr ⟨_,_,rfl⟩⟩
 split at hg
 ·rename_i hh;subst hh
  simp only[Option.some.injEq] at hg;subst hg
  exact⟨lt_of_heap k6,_,_,_,k6,by rw[q6,pow_cells]⟩
 ·cases hg
end Go.Proofs.YtbpdikmponmmpaaDoor
namespace Go.TM.Dw
open Go.Lib
def isDg (c:UInt8):Prop:=48≤c.toNat∧c.toNat≤57
instance (c:UInt8):Decidable (isDg c):=by unfold isDg;infer_instance
def dstep (acc:Nat) (c:UInt8):Nat:=acc*10+(c.toNat - 48)
def dval (acc:Nat) (l:List UInt8):Nat:=l.foldl dstep acc
theorem dval_cons (acc:Nat) (c:UInt8) (r:List UInt8):dval acc (c::r)=dval (dstep acc c) r:=by unfold dval;rw[List.foldl_cons]
theorem dval_nil (acc:Nat):dval acc []=acc:=by unfold dval;rw[List.foldl_nil]
def canon (l:List UInt8):Prop:=l≠[]∧(∀ c,c∈l→isDg c)∧(l.length=1∨l.head?≠some 48)
theorem dval_snoc (l:List UInt8) (acc:Nat) (c:UInt8):dval acc (l++[c])=dval acc l*10+(c.toNat - 48):=by
 unfold dval
 rw[List.foldl_append,List.foldl_cons,List.foldl_nil]
 rfl
theorem dval_ge:∀ (l:List UInt8) (acc:Nat),acc≤dval acc l:=by
 intro l
 induction l with
 | nil=>intro acc;exact Nat.le_refl _
 | cons x l ih=>
  intro acc
  rw[dval_cons]
  have h1:=ih (dstep acc x)
  have h2:acc≤dstep acc x:=by unfold dstep;omega
  omega
theorem dval_pos {l:List UInt8} (h1:l≠[]) (h2:∀ c,c∈l→isDg c) (h3:l.head?≠some 48):1≤dval 0 l:=by
 cases l with
 | nil=>exact absurd rfl h1
 | cons c r=>
  rw[dval_cons]
  have hd:=h2 c (by simp)
  have hc:c.toNat≠48:=fun e=>h3 (by simp only[List.head?_cons,Option.some.injEq];exact UInt8.toNat_inj.1 e)
  have h4:=dval_ge r (dstep 0 c)
  have h5:1≤dstep 0 c:=by unfold dstep;unfold isDg at hd;omega
  omega
theorem ofNat_digit {c:UInt8} (h:isDg c):UInt8.ofNat (48+(c.toNat - 48))=c:=by
 unfold isDg at h
 rw[show 48+(c.toNat - 48)=c.toNat by omega]
 simp
theorem dec_of_canon:∀ (n:Nat) (l:List UInt8),l.length=n→canon l→decDigits (dval 0 l)=l:=by
 intro n
 induction n with
 | zero=>intro l hl hc;exact absurd (List.length_eq_zero_iff.1 hl) hc.1
 | succ n ih=>
  intro l hl hc
  obtain⟨h1,h2,h3⟩:=hc
  have e:l.dropLast++[l.getLast h1]=l:=List.dropLast_concat_getLast h1
  generalize l.dropLast=p at e
  generalize l.getLast h1=c at e
  subst e
  have hd:=h2 c (by simp)
  rw[dval_snoc]
  cases p with
  | nil=>
   rw[dval_nil,List.nil_append]
   unfold isDg at hd
   rw[Nat.zero_mul,Nat.zero_add,decDigits_one (by omega),ofNat_digit (by unfold isDg;omega)]
  | cons x r=>
   have hx:(x::r).head?≠some 48:=by
    rcases h3 with h3 | h3
    ·simp at h3
    ·simpa using h3
   have hp:canon (x::r):=⟨by simp,fun d hd=>h2 d (by simp at hd ⊢;rcases hd with hd | hd;exact .inl hd;exact .inr (.inl hd)),.inr hx⟩
   have i1:=ih (x::r) (by simp at hl ⊢;omega) hp
   have pos:=dval_pos hp.1 hp.2.1 hx
   unfold isDg at hd
   rw[decDigits,dif_neg (by omega),show (dval 0 (x::r)*10+(c.toNat - 48)) / 10=dval 0 (x::r) by omega,show (dval 0 (x::r)*10+(c.toNat - 48)) % 10=c.toNat - 48 by omega,i1,ofNat_digit (by unfold isDg;omega)]
theorem canon_dec:∀ (n:Nat),canon (decDigits n)∧dval 0 (decDigits n)=n:=by
 intro n
 induction n using Nat.strongRecOn with
 | _ n ih=>
  by_cases h:n<10
  ·rw[decDigits_one h]
   have e:(UInt8.ofNat (48+n)).toNat=48+n:=by simp;omega
   refine⟨⟨by simp,fun c hc=>?_,.inl rfl⟩,?_⟩
   ·simp only[List.mem_singleton] at hc
    subst hc
    unfold isDg
    omega
   ·rw[dval_cons,dval_nil];unfold dstep;rw[e];omega
  ·obtain⟨⟨a1,a2,a3⟩,a4⟩:=ih (n / 10) (by omega)
   rw[decDigits,dif_neg h]
   have e:(UInt8.ofNat (48+n % 10)).toNat=48+n % 10:=by simp;omega
   refine⟨⟨by simp,fun c hc=>?_,.inr ?_⟩,?_⟩
   ·simp only[List.mem_append,List.mem_singleton] at hc
    rcases hc with hc | rfl
    ·exact a2 c hc
    ·unfold isDg;omega
   ·have hh:(decDigits (n / 10)++[UInt8.ofNat (48+n % 10)]).head?=(decDigits (n / 10)).head?:=by
     cases hq:decDigits (n / 10) with
     | nil=>exact absurd hq a1
     | cons x r=>rfl
    rw[hh]
    rcases a3 with a3 | a3
    ·intro h0
     have:decDigits (n / 10)=[48]:=by
      match hq:decDigits (n / 10),a3 with
      | [x],_=>
       rw[hq] at h0
       simp at h0
       rw[h0]
     rw[this] at a4
     have e0:dval 0 [48]=0:=rfl
     omega
    ·exact a3
   ·rw[dval_snoc,a4,e];omega
theorem parseM:∀ (l:List UInt8) (k acc:Nat),(∀ c,c∈l→isDg c)→l.length≤k→k≤4→acc<10 ^ (4 - k)→parseUintM (2 ^ 64 - 1) acc l=.ok (dval acc l):=by
 intro l
 induction l with
 | nil=>intro k acc _ _ _ _;rfl
 | cons c r ih=>
  intro k acc h h1 h2 h3
  have hd:=h c (by simp)
  have hd':=hd
  unfold isDg at hd'
  simp only[List.length_cons] at h1
  have h4:acc<10000:=Nat.lt_of_lt_of_le h3 (Nat.pow_le_pow_right (by omega) (by omega):10 ^ (4 - k)≤10 ^ 4)
  have h6:dstep acc c<10 ^ (4 - (k - 1)):=by
   rw[show 4 - (k - 1)=(4 - k)+1 by omega,Nat.pow_succ]
   unfold dstep
   omega
  have e:=ih (k - 1) (dstep acc c) (fun d hd=>h d (by simp[hd])) (by omega) (by omega) h6
  rw[parseUintM,if_pos hd',if_neg (by omega),if_neg (by omega),dval_cons]
  exact e
theorem dval_small:∀ (l:List UInt8) (k acc:Nat),(∀ c,c∈l→isDg c)→l.length≤k→k≤4→acc<10 ^ (4 - k)→dval acc l<10000:=by
 intro l
 induction l with
 | nil=>intro k acc _ _ _ h;exact Nat.lt_of_lt_of_le h (Nat.pow_le_pow_right (by omega) (by omega):10 ^ (4 - k)≤10 ^ 4)
 | cons c r ih=>
  intro k acc h h1 h2 h3
  have hd:=h c (by simp)
  unfold isDg at hd
  simp only[List.length_cons] at h1
  rw[dval_cons]
  refine ih (k - 1) (dstep acc c) (fun d hd=>h d (by simp[hd])) (by omega) (by omega) ?_
  rw[show 4 - (k - 1)=(4 - k)+1 by omega,Nat.pow_succ]
  unfold dstep
  omega
theorem parse_canon {l:List UInt8} (h:canon l) (h4:l.length≤4):parseIntB 64 l=.ok ((dval 0 l:Nat):Int):=by
 obtain⟨h1,h2,_⟩:=h
 have hp:=parseM l 4 0 h2 h4 (Nat.le_refl _) (by decide)
 have hs:=dval_small l 4 0 h2 h4 (Nat.le_refl _) (by decide)
 cases l with
 | nil=>exact absurd rfl h1
 | cons c r=>
  have hd:=h2 c (by simp)
  unfold isDg at hd
  have n1:¬ (c.toNat=43∨c.toNat=45):=by omega
  have n2:¬ c.toNat=45:=by omega
  have e2:parseUintB 64 (if c.toNat=43∨c.toNat=45 then r else c::r)=.ok (dval 0 (c::r)):=by
   rw[if_neg n1,parseUintB,if_neg (by simp),hp]
  unfold parseIntB
  simp only[e2]
  rw[if_neg (by omega),if_neg (by omega),if_neg n2]
theorem canon_of_itoa {l:List UInt8} {v:Int} (h0:0≤v) (h:itoa v=l):canon l∧v=((dval 0 l:Nat):Int):=by
 unfold itoa at h
 rw[if_neg (by omega)] at h
 have hc:=canon_dec v.toNat
 rw[h] at hc
 exact⟨hc.1,by rw[hc.2];omega⟩
theorem itoa_canon {l:List UInt8} (h:canon l):itoa ((dval 0 l:Nat):Int)=l:=by
 unfold itoa
 rw[if_neg (by omega),Int.toNat_natCast]
 exact dec_of_canon _ l rfl h
end Go.TM.Dw
namespace Go.TM.Dw
open Go Go.TM Go.Proofs
set_option maxRecDepth 20000
attribute [local congr] gif_cg
attribute [local simp] footOf noClash clash upsets setsHit setHits layHits layMeets setsMeet evFeet
section
variable (P:Program) (t:TypeId) (x y:Operand)
theorem pr_mul (k:IntKind) (a b:Int):pureRun P (do eqGuard .mul t x y (.int k a) (.int k b);binOp .mul t (.int k a) (.int k b))=some (.int k (k.wrap (a*b))):=by cases k<;>rfl
theorem pr_cvt2 (a:Int):pureRun Tryd.prog (convert 5 2 (.int .u8 a))=some (.int .i64 (IntKind.i64.wrap a)):=by kernel_rfl
end
def allDg (l:List UInt8):Bool:=l.all fun c=>decide (isDg c)
theorem lp34 (s:ByteArray) (hs:s.size≤4):∀ (n i acc:Nat),i+n=s.size→acc<10 ^ i→
  (allDg (s.data.toList.drop i)=true∧evLoop E (orc E) (34:Nat) (n+1) (loopOf Tryd.f34 0) ⟨49,[(0,vS s),(4,vI acc),(5,vI i)],[],2⟩=some (.exit 0,⟨49,[(0,vS s),(4,vI (dval acc (s.data.toList.drop i))),(5,vI s.size),(27,vB false)],[],2⟩))∨
  (allDg (s.data.toList.drop i)=false∧evLoop E (orc E) (34:Nat) (n+1) (loopOf Tryd.f34 0) ⟨49,[(0,vS s),(4,vI acc),(5,vI i)],[],2⟩=some (.ret,⟨49,[(2,vI 0),(3,vB false)],[],2⟩)):=by
 intro n
 induction n with
 | zero=>
  intro i acc hi ha
  have e:i=s.size:=by omega
  subst e
  have hl:s.data.toList.length=s.size:=by simp
  have ed:s.data.toList.drop s.size=[]:=List.drop_of_length_le (by omega)
  have h1:ltI (s.size:Int) (s.size:Int)=false:=ltI_f (by omega)
  refine .inl ⟨by rw[ed];rfl,?_⟩
  rw[ed,dval_nil]
  refine evLoop_out ?_ (by simp)
  simp (maxSteps:=1000000) +contextual -dsimp [Tryd.f34,h1,List.set]
 | succ n ih=>
  intro i acc hi ha
  have hi2:i<s.size:=by omega
  have hl:s.data.toList.length=s.size:=by simp
  obtain⟨j,ej⟩:∃ j,j=i+1:=⟨_,rfl⟩
  have hw:IntKind.i64.wrap ((i:Int)+1)=(j:Int):=by rw[wrapI]<;>omega
  have h1:ltI (i:Int) (s.size:Int)=true:=ltI_t (by omega)
  have p0:=pr_idx s (i:Int) (by_ s i) (by omega) (by_get hi2)
  have hb:=by_at hi2
  have ed:s.data.toList.drop i=by_ s i::s.data.toList.drop j:=by
   have hb2:=hb
   rw[List.getElem?_eq_getElem (by omega)] at hb2
   simp only[Option.some.injEq] at hb2
   rw[List.drop_eq_getElem_cons (by omega),hb2,←ej]
  rw[ed]
  generalize by_ s i=c at *
  have hac:acc<10000:=Nat.lt_of_lt_of_le ha (Nat.pow_le_pow_right (by omega) (by omega):10 ^ i≤10 ^ 4)
  have hcl:c.toNat<256:=c.toNat_lt
  by_cases hd:isDg c
  ·have hd':=hd
   unfold isDg at hd'
   have q1:ltI (c.toNat:Int) 48=false:=ltI_f (by omega)
   have q2:ltI 57 (c.toNat:Int)=false:=ltI_f (by omega)
   obtain⟨a2,ea⟩:∃ a2,a2=dstep acc c:=⟨_,rfl⟩
   have w1:IntKind.i64.wrap ((acc:Int)*10)=(acc:Int)*10:=by rw[wrapI]<;>omega
   have w2:IntKind.u8.wrap ((c.toNat:Int) - 48)=(c.toNat:Int) - 48:=by
    show ((c.toNat:Int) - 48) % 256=_
    omega
   have w3:IntKind.i64.wrap ((c.toNat:Int) - 48)=(c.toNat:Int) - 48:=by rw[wrapI]<;>omega
   have w4:IntKind.i64.wrap ((acc:Int)*10+((c.toNat:Int) - 48))=(a2:Int):=by rw[wrapI,ea]<;>unfold dstep at*<;> omega
   have ea3:a2<10 ^ j:=by
    rw[ej,Nat.pow_succ,ea]
    unfold dstep
    omega
   have ad:allDg (c::s.data.toList.drop j)=allDg (s.data.toList.drop j):=by simp[allDg,hd]
   rw[ad,dval_cons,←ea]
   rcases ih j a2 (by omega) ea3 with⟨k1,k2⟩ | ⟨k1,k2⟩
   ·refine .inl ⟨k1,evLoop_next ?_ k2⟩
    simp (maxSteps:=1000000) +contextual -dsimp [Tryd.f34,h1,p0,q1,q2,pr_mul,pr_cvt2,hw,w1,w2,w3,w4,List.set]
   ·refine .inr ⟨k1,evLoop_next ?_ k2⟩
    simp (maxSteps:=1000000) +contextual -dsimp [Tryd.f34,h1,p0,q1,q2,pr_mul,pr_cvt2,hw,w1,w2,w3,w4,List.set]
  ·have ad:allDg (c::s.data.toList.drop j)=false:=by simp[allDg,hd]
   refine .inr ⟨ad,evLoop_out ?_ (by simp)⟩
   cases q1:ltI (c.toNat:Int) 48
   ·have q2:ltI 57 (c.toNat:Int)=true:=by
     refine ltI_t ?_
     have:¬ (c.toNat:Int)<48:=by
      intro h
      rw[ltI_t h] at q1
      simp at q1
     unfold isDg at hd
     omega
    simp (maxSteps:=1000000) +contextual -dsimp [Tryd.f34,h1,p0,q1,q2,List.set]
   ·simp (maxSteps:=1000000) +contextual -dsimp [Tryd.f34,h1,p0,q1,List.set]
def num4 (l:List UInt8):Option Nat:=if l.length<1 then none else if 4<l.length then none else if 1<l.length∧l.head?=some 48 then none else if allDg l=true then some (dval 0 l) else none
theorem num4_some {l:List UInt8} {n:Nat} (h:num4 l=some n):canon l∧l.length≤4∧dval 0 l=n:=by
 unfold num4 at h
 split at h
 ·simp at h
 split at h
 ·simp at h
 split at h
 ·simp at h
 split at h
 ·rename_i h1 h2 h3 h4
  refine⟨⟨fun e=>h1 (by rw[e];simp),fun c hc=>?_,?_⟩,by omega,by simpa using h⟩
  ·have:=List.all_eq_true.1 h4 c hc
   simpa using this
  ·by_cases hl:l.length=1
   ·exact .inl hl
   ·exact .inr fun e=>h3 ⟨by omega,e⟩
 ·simp at h
theorem num4_canon {l:List UInt8} (h:canon l) (h4:l.length≤4):num4 l=some (dval 0 l):=by
 obtain⟨h1,h2,h3⟩:=h
 have h0:1≤l.length:=by
  cases l with
  | nil=>exact absurd rfl h1
  | cons a b=>simp
 unfold num4
 rw[if_neg (by omega),if_neg (by omega),if_neg,if_pos]
 ·exact List.all_eq_true.2 fun c hc=>by simpa using h2 c hc
 ·rintro⟨a,b⟩
  rcases h3 with h3 | h3
  ·omega
  ·exact h3 b
abbrev numR (o:Option Nat):Res:=match o with
 | some n=>R (.tup [vI n,vB true])
 | none=>R (.tup [vI 0,vB false])
theorem f_l14N (s:ByteArray) (hs:s.size≤1048576):fo 34 [A (vS s)]=some (numR (num4 s.data.toList)):=by
 have hl:s.data.toList.length=s.size:=by simp
 unfold num4
 rw[hl]
 by_cases h1:s.size<1
 ·rw[if_pos h1]
  have q1:ltI (s.size:Int) 1=true:=ltI_t (by omega)
  refine orc_34 1 ?_
  simp (maxSteps:=1000000) +contextual -dsimp [Tryd.f34,q1,List.set]
 rw[if_neg h1]
 have q1:ltI (s.size:Int) 1=false:=ltI_f (by omega)
 by_cases h2:4<s.size
 ·rw[if_pos h2]
  have q2:ltI 4 (s.size:Int)=true:=ltI_t (by omega)
  refine orc_34 1 ?_
  simp (maxSteps:=1000000) +contextual -dsimp [Tryd.f34,q1,q2,List.set]
 rw[if_neg h2]
 have q2:ltI 4 (s.size:Int)=false:=ltI_f (by omega)
 have p0:=pr_idx s 0 (by_ s 0) (by omega) (by_get (i:=0) (by omega))
 have hb:=by_at (s:=s) (i:=0) (by omega)
 have hh:s.data.toList.head?=some (by_ s 0):=by rw[List.head?_eq_getElem?];exact hb
 rw[hh]
 obtain hlp:=lp34 s (by omega) s.size 0 0 (by omega) (by simp)
 rw[List.drop_zero] at hlp
 simp -dsimp [Tryd.f34] at hlp
 by_cases h3:1<s.size∧some (by_ s 0)=some 48
 ·rw[if_pos h3]
  obtain⟨h3a,h3b⟩:=h3
  have q3:ltI 1 (s.size:Int)=true:=ltI_t (by omega)
  have q4:eqI ((by_ s 0).toNat:Int) 48=true:=eqI_t (by
   have:by_ s 0=48:=by simpa using h3b
   rw[this];rfl)
  refine orc_34 1 ?_
  simp (maxSteps:=1000000) +contextual -dsimp [Tryd.f34,q1,q2,q3,q4,p0,List.set]
 rw[if_neg h3]
 have q34:ltI 1 (s.size:Int)=false∨(ltI 1 (s.size:Int)=true∧eqI ((by_ s 0).toNat:Int) 48=false):=by
  by_cases h:1<s.size
  ·refine .inr ⟨ltI_t (by omega),eqI_f fun e=>h3 ⟨h,?_⟩⟩
   have:(by_ s 0).toNat=(48:UInt8).toNat:=by simpa using (Int.ofNat_inj.1 e)
   rw[UInt8.toNat_inj.1 this]
  ·exact .inl (ltI_f (by omega))
 rcases hlp with⟨ka,hlp⟩ | ⟨ka,hlp⟩
 ·rw[if_pos ka]
  refine orc_34 (s.size+1) ?_
  rcases q34 with q3 | ⟨q3,q4⟩
  ·simp (maxSteps:=1000000) +contextual -dsimp [Tryd.f34,q1,q2,q3,p0,hlp,List.set]
  ·simp (maxSteps:=1000000) +contextual -dsimp [Tryd.f34,q1,q2,q3,q4,p0,hlp,List.set]
 ·rw[if_neg (by rw[ka];simp)]
  refine orc_34 (s.size+1) ?_
  rcases q34 with q3 | ⟨q3,q4⟩
  ·simp (maxSteps:=1000000) +contextual -dsimp [Tryd.f34,q1,q2,q3,p0,hlp,List.set]
  ·simp (maxSteps:=1000000) +contextual -dsimp [Tryd.f34,q1,q2,q3,q4,p0,hlp,List.set]
abbrev nV (n:Nat):List T:=[vI n]
theorem oclean_N (l:List Nat):cleanEs (l.map nV)=true:=by
 induction l with
 | nil=>rfl
 | cons x l ih=>simp only[List.map_cons,cleanEs,ih,Bool.and_true];simp[cleanL,clean]
def nums:List ByteArray→Option (List Nat)
 | []=>some []
 | s::r=>match num4 s.data.toList with
  | none=>none
  | some n=>match nums r with
   | none=>none
   | some ns=>some (n::ns)
theorem lp29 (all:List ByteArray) (hall:all.length≤2097152) (hsz:∀ s,s∈all→s.size≤1048576):∀ (rest:List ByteArray) (i:Nat) (out:List Nat),all.drop i=rest→out.length≤i→
  (∃ ns,nums rest=some ns∧evLoop E (orc E) (29:Nat) (rest.length+1) (loopOf Tryd.f29 0) ⟨30,[(0,.sl 9 (all.map wT)),(4,.ref 4 1 [] 0 out.length),(5,vI i)],[(4,⟨1,1,false,[.own 2 (out.map nV)]⟩)],2⟩=
   some (.exit 0,⟨30,[(0,.sl 9 (all.map wT)),(4,.ref 4 1 [] 0 (out++ns).length),(5,vI (i+rest.length:Nat)),(12,vB false)],[(4,⟨1,1,false,[.own 2 ((out++ns).map nV)]⟩)],2⟩))∨
  (nums rest=none∧∃ o2:List Nat,evLoop E (orc E) (29:Nat) (rest.length+1) (loopOf Tryd.f29 0) ⟨30,[(0,.sl 9 (all.map wT)),(4,.ref 4 1 [] 0 out.length),(5,vI i)],[(4,⟨1,1,false,[.own 2 (out.map nV)]⟩)],2⟩=
   some (.ret,⟨30,[(2,.v (.slice none 0 0)),(3,vB false)],[(4,⟨1,1,false,[.own 2 (o2.map nV)]⟩)],2⟩))
 | [],i,out,h,ho=>by
  have hge:all.length≤i:=by simpa using h
  have hlt:ltI (i:Int) (all.length:Int)=false:=ltI_f (by omega)
  refine .inl ⟨[],rfl,?_⟩
  rw[loop_eq]
  simp +contextual -dsimp [Tryd.f29,hlt]
 | c::rest,i,out,h,ho=>by
  obtain⟨hi,hc,hr⟩:=drop_cons h
  have hlt:ltI (i:Int) (all.length:Int)=true:=ltI_t (by omega)
  have hw:IntKind.i64.wrap ((i:Int)+1)=((i+1:Nat):Int):=by rw[wrapI]<;>omega
  have g:=f_l14N c (hsz c (by rw[←hc];exact List.getElem_mem hi))
  have he:i+1+rest.length=i+(rest.length+1):=by omega
  have hm:out.length+1≤maxElems:=by unfold maxElems;omega
  simp only[nums]
  cases q:num4 c.data.toList with
  | none=>
   rw[q] at g
   simp only[numR] at g
   refine .inr ⟨rfl,out,evLoop_out ?_ (by simp)⟩
   simp (maxSteps:=1000000) +contextual -dsimp [Tryd.f29,hlt,hi,hc,hw,g,List.set]
  | some n=>
   rw[q] at g
   simp only[numR] at g
   have step:∀ {r},evLoop E (orc E) (29:Nat) (rest.length+1) (loopOf Tryd.f29 0) ⟨30,[(0,.sl 9 (all.map wT)),(4,.ref 4 1 [] 0 (out++[n]).length),(5,vI (i+1:Nat))],[(4,⟨1,1,false,[.own 2 ((out++[n]).map nV)]⟩)],2⟩=r→
     evLoop E (orc E) (29:Nat) (rest.length+1+1) (loopOf Tryd.f29 0) ⟨30,[(0,.sl 9 (all.map wT)),(4,.ref 4 1 [] 0 out.length),(5,vI i)],[(4,⟨1,1,false,[.own 2 (out.map nV)]⟩)],2⟩=r:=fun ih=>by
    refine evLoop_next ?_ ih
    simp (maxSteps:=1000000) +contextual -dsimp [Tryd.f29,hlt,hi,hc,hw,g,hm,List.set]
   rcases lp29 all hall hsz rest (i+1) (out++[n]) hr (by simp;omega) with⟨ns,e,ih⟩ | ⟨e,o2,ih⟩
   ·refine .inl ⟨n::ns,by rw[e],?_⟩
    rw[he,List.append_assoc] at ih
    exact step ih
   ·exact .inr ⟨by rw[e],o2,step ih⟩
abbrev numsR (o:Option (List Nat)):Res:=match o with
 | some ns=>R (.tup [.own 2 (ns.map nV),vB true])
 | none=>R (.tup [.own 2 [],vB false])
theorem f_l14Ns (l:List ByteArray) (hl:l.length≤2097152) (hsz:∀ s,s∈l→s.size≤1048576):fo 29 [A (.sl 9 (l.map wT))]=some (numsR (nums l)):=by
 rcases lp29 l hl hsz l 0 [] rfl (by simp) with⟨ns,e,hlp⟩ | ⟨e,o2,hlp⟩
 ·rw[e]
  rw[List.nil_append] at hlp
  have hc:=oclean_N ns
  simp -dsimp [Tryd.f29] at hlp
  refine orc_29 (l.length+1) ?_
  simp (maxSteps:=1000000) +contextual -dsimp [Tryd.f29,hlp,hc,List.set]
 ·rw[e]
  have hc:=oclean_N o2
  simp -dsimp [Tryd.f29] at hlp
  refine orc_29 (l.length+1) ?_
  simp (maxSteps:=1000000) +contextual -dsimp [Tryd.f29,hlp,hc,List.set]
end Go.TM.Dw
