/- Of the tree machine: its evaluator and why it is sound. -/
import Derived.Test.YtbpdikmponmmpaaDoorITm2
import Derived.Orders
set_option linter.unusedSimpArgs false
set_option linter.unusedVariables false
namespace Go.TM
open Go
mutual
theorem okV_clean {sz h I I'}:∀ {t u f},clean t=true→okV sz h I t u f→okV sz h I' t u f
 | .v x,u,f,_,hk=>by simpa only[okV] using hk
 | .agg cs,u,f,hc,hk=>by
  simp only[okV] at hk ⊢
  simp only[clean] at hc
  obtain⟨us,h1,h2⟩:=hk
  exact⟨us,h1,okL_clean hc h2⟩
 | .tup cs,u,f,hc,hk=>by
  simp only[okV] at hk ⊢
  simp only[clean] at hc
  obtain⟨us,h1,h2⟩:=hk
  exact⟨us,h1,okL_clean hc h2⟩
 | .own e es,u,f,hc,hk=>by
  simp only[okV] at hk ⊢
  simp only[clean] at hc
  rcases hk with hk | ⟨b,o,cap,arr,el,fz,fs',h1,h2,h3,h4,h5,rfl,h7⟩
  ·exact .inl hk
  ·exact .inr ⟨b,o,cap,arr,el,fz,fs',h1,h2,h3,h4,h5,rfl,okEs_clean hc h7⟩
 | .sl _ _,u,f,hc,_=>by simp[clean] at hc
 | .ref ..,u,f,hc,_=>by simp[clean] at hc
 | .ptr ..,u,f,hc,_=>by simp[clean] at hc
 | .bx ..,u,f,hc,_=>by simp[clean] at hc
 | .ipt _,u,f,hc,_=>by simp[clean] at hc
 | .clo _ _,u,f,hc,_=>by simp[clean] at hc
 | .dead,u,f,hc,_=>by simp[clean] at hc
 | .hdr n,u,f,hc,hk=>by simpa only[okV] using hk
theorem okL_clean {sz h I I'}:∀ {cs us f},cleanL cs=true→okL sz h I cs us f→okL sz h I' cs us f
 | [],us,f,_,hk=>by simpa only[okL] using hk
 | c::cs,us,f,hc,hk=>by
  simp only[okL] at hk ⊢
  simp only[cleanL,Bool.and_eq_true] at hc
  obtain⟨u,us',f1,f2,h1,h2,h3,h4⟩:=hk
  exact⟨u,us',f1,f2,h1,h2,okV_clean hc.1 h3,okL_clean hc.2 h4⟩
theorem okEs_clean {sz h I I'} {s:Nat}:∀ {es l f},cleanEs es=true→okEs sz h I s es l f→okEs sz h I' s es l f
 | [],l,f,_,hk=>by simpa only[okEs] using hk
 | c::es,l,f,hc,hk=>by
  simp only[okEs] at hk ⊢
  simp only[cleanEs,Bool.and_eq_true] at hc
  obtain⟨f1,f2,h1,h2,h3,h4⟩:=hk
  exact⟨f1,f2,h1,h2,okL_clean hc.1 h3,okEs_clean hc.2 h4⟩
end
def okArg (sz:TypeId→Nat) (h:Array Obj) (I:Nat→Prop) (i:Nat) (a:Arg) (u:Value) (f:List Nat):Prop:=
  match a.root with
  | none=>okV sz h I a.t u []∧f=[]
  | some r=>∃ g,okRoot sz h I g r f∧r.ver=0∧r.hver≤1∧
      ((r.real = true ∧ a.t = .ptr i 0 [] 0 ∧ ∃ b, g.blk = some b ∧ u = .pointer (some ⟨b.b, b.pre.length, none⟩)) ∨
       (r.real=false∧∃ e es,r.cells=[.own e es]∧a.t=.ref i 0 [] 0 es.length∧g=⟨none,[u]⟩)∨
       (r.real=false∧∃ cs us,r.cells=cs.map bare∧a.t=.agg (viewFrom i 0 [] 0 cs)∧u=.agg us.toArray∧g=⟨none,us⟩∧okL sz h I (cs.map vw) us []))
def okArgs (sz:TypeId→Nat) (h:Array Obj) (I:Nat→Prop):Nat→List Arg→List Value→List Nat→Prop
 | _,[],us,f=>us=[]∧f=[]
 | i,a::as,us,f=>∃ u us' f1 f2,us=u::us'∧f=f1++f2∧okArg sz h I i a u f1∧okArgs sz h I (i+1) as us' f2
def okOuts (sz:TypeId→Nat) (h0 h:Array Obj) (I:Nat→Prop) (args:List Arg) (us:List Value):List (Nat×List T)→List Nat→Prop
 | [],f=>f=[]
 | (i,cs)::r,f=>∃ B f1 f2 arr vals,f=(Blk.b B::f1)++f2∧us[i]?=some (.pointer (some ⟨B.b,B.pre.length,none⟩))∧h[B.b]?=some (.cells arr B.el B.fz)∧fzFree B.fz arr.size∧arr.toList=B.pre++vals++B.post∧okL sz h I cs vals f1∧
   (∃ arr0 vals0,h0[B.b]?=some (.cells arr0 B.el B.fz)∧arr0.toList=B.pre++vals0++B.post∧∀ r0,(args[i]?).bind (·.root)=some r0→vals0.length=r0.cells.length∧(r0.hver=0→skL sz h h0 cs r0.cells vals vals0))∧okOuts sz h0 h I args us r f2
structure Back (sz:TypeId→Nat) (z:Zn) (args:List Arg) (us:List Value) (r:Res) (u:Value) (w':World):Prop where
 fr:Fr z w'
 ok:∃ f fo,okV sz w'.heap (Inow z w' (f++fo)) r.ret u f∧okOuts sz z.w0.heap w'.heap (Inow z w' (f++fo)) args us r.outs fo∧Uniq (f++fo)∧∀ b,b∈f++fo→b<w'.heap.size∧(b∈z.F0∨z.w0.heap.size≤b)
 clean:r.clean=true→TM.clean r.ret=true
structure BackL (sz:TypeId→Nat) (z:Zn) (vs:List Value) (row row':List T) (w':World):Prop where
 fr:Fr z w'
 ok:∃ f,okL sz w'.heap (Inow z w' f) row' vs f∧Uniq f∧∀ b,b∈f→b<w'.heap.size∧(b∈z.F0∨z.w0.heap.size≤b)
 sk:skL sz w'.heap z.w0.heap row' row vs vs
inductive LentArg:Arg→List T→Value→List Value→Prop
 | one (e:TypeId) (es:List (List T)) (u:Value):LentArg ⟨.ref 0 0 [] 0 es.length,some ⟨0,0,false,[.own e es]⟩⟩ [.own e es] u [u]
 | row (cs:List T) (vs:List Value):LentArg ⟨.agg (viewFrom 0 0 [] 0 cs),some ⟨0,0,false,cs.map bare⟩⟩ cs (.agg vs.toArray) vs
def lentCell:T→Bool
 | .own ..=>true
 | .v _=>true
 | _=>false
def ViewOk (E:Env) (f:FuncId) (v:View):Prop:=szOf E v.elem=1∧∀ (w:World) (b o n cap k:Nat) (H1 H2:Value) (vs:List Value) (u:Value),vs.length=5→k<n→w.cell? ⟨b,o+k,none⟩=some u→
 Calls E.P f #[.agg #[.slice (some ⟨b,o,none⟩) n cap,H1,H2],.agg (.int .i64 k::vs).toArray] w fun
  | .returned u',w'=>u'=u∧∀ z:Zn,z.w0=w→z.F0=[]→Fr z w'
  | _,_=>False
structure Sound (E:Env) (f:FuncId) (args:List Arg) (r:Res):Prop where
 cells:lends (E.mode f)=true→∀ i row',(i,row')∈r.outs→row'.all lentCell=true
 old:lends (E.mode f)=false→∀ (z:Zn) (us:List Value),Uniq z.F0→(∀ b,b∈z.F0→b<z.w0.heap.size)→okArgs (szOf E) z.w0.heap z.I0 0 args us z.F0→
  Calls E.P f us.toArray z.w0 fun
   | .returned u,w'=>Back (szOf E) z args us r u w'
   | _,_=>False
 lend:lends (E.mode f)=true→∀ (z:Zn) (a:Arg) (ys:List Value) (row:List T) (u:Value) (vs:List Value),args=a::ys.map valArg→LentArg a row u vs→row.all lentCell=true→
  Uniq z.F0→(∀ b,b∈z.F0→b<z.w0.heap.size)→okL (szOf E) z.w0.heap z.I0 row vs z.F0→
  ∃ x row',r.ret=.v x∧r.outs=[(0,row')]∧Calls E.P f (u::ys).toArray z.w0 fun
   | .returned u',w'=>u'=x∧BackL (szOf E) z vs row row' w'
   | _,_=>False
 view:∀ v,E.view f=some v→ViewOk E f v
theorem seal0_ok {sz z rt gh w FS X} {t t':T} {ds:List Nat} {u:Value} (r:HRel sz z rt gh w FS X) (hk:okX0 ⟨sz,w.heap,Inow z w (FS++X),rt,gh⟩ t u) (h:(seal0 t).run rt=some (t',ds)):
  okV sz w.heap (fun b=>Inow z w (FS++X) b∨(ds≠[]∧b∈FS)) t' u []:=by
 have up:∀ {t},okV sz w.heap (Inow z w (FS++X)) t u []→okV sz w.heap (fun b=>Inow z w (FS++X) b∨(ds≠[]∧b∈FS)) t u []:=fun hv=>
  okV_agree ⟨fun b hb=>⟨.inl hb,rfl⟩,fun b hb=>by simp at hb⟩ hv
 unfold seal0 at h
 split at h
 ·rename_i d ver path c n
  obtain⟨⟨e,es⟩,g1,g2⟩:=run_bind h
  simp only[Rd.run,Option.some.injEq,Prod.mk.injEq] at g2
  obtain⟨rfl,rfl⟩:=g2
  obtain⟨f,q1,q2,q3⟩:=r.content hk.2 g1
  have:=okV_seal (I':=fun b=>Inow z w (FS++X) b∨(([d]:List Nat)≠[]∧b∈FS)) (fun b hb=>.inl hb) (fun b hb=>.inr ⟨by simp,q3 b hb⟩) q1
  simpa only[seal_] using this
 ·rename_i e es
  simp only[Rd.run,Option.some.injEq,Prod.mk.injEq] at h
  obtain⟨rfl,rfl⟩:=h
  have hk':okV sz w.heap (Inow z w (FS++X)) (.own e es) u []:=hk
  have:=okV_seal (I':=fun b=>Inow z w (FS++X) b∨(([]:List Nat)≠[]∧b∈FS)) (fun b hb=>.inl hb) (fun b hb=>by simp at hb) hk'
  simpa only[seal_] using this
 all_goals first
  | (simp only[Rd.run,Option.some.injEq,Prod.mk.injEq] at h;obtain⟨rfl,rfl⟩:=h;exact up hk)
  | simp[Rd.run] at h
theorem seal0_okV {sz h I} {FS:List Nat} {rt:List (Nat×Root)} {t t':T} {ds:List Nat} {u:Value} {f:List Nat} (hk:okV sz h I t u f) (hs:∀ b,b∈f→b∈FS) (he:(seal0 t).run rt=some (t',ds)):
  okV sz h (fun b=>I b∨b∈FS) t' u []:=by
 have up:f=[]→okV sz h (fun b=>I b∨b∈FS) t u []:=fun hf=>by
  subst hf
  exact okV_agree ⟨fun b hb=>⟨.inl hb,rfl⟩,fun b hb=>by simp at hb⟩ hk
 unfold seal0 at he
 split at he
 ·simp[okV] at hk
 ·rename_i e es
  simp only[Rd.run,Option.some.injEq,Prod.mk.injEq] at he
  obtain⟨rfl,rfl⟩:=he
  have:=okV_seal (I':=fun b=>I b∨b∈FS) (fun b hb=>.inl hb) (fun b hb=>.inr (hs b hb)) hk
  simpa only[seal_] using this
 all_goals first
  | (simp only[Rd.run,Option.some.injEq,Prod.mk.injEq] at he;obtain⟨rfl,rfl⟩:=he;exact up (okV_cell hk rfl rfl))
  | simp[Rd.run] at he
theorem sealCells_okL {sz h I} {FS:List Nat} {rt:List (Nat×Root)}:∀ {ts ts':List T} {ds:List Nat} {us:List Value} {f:List Nat},okL sz h I ts us f→(∀ b,b∈f→b∈FS)→(sealCells seal0 ts).run rt=some (ts',ds)→
  okL sz h (fun b=>I b∨b∈FS) ts' us []
 | [],ts',ds,us,f,hk,_,he=>by
  simp only[sealCells,Rd.run,Option.some.injEq,Prod.mk.injEq] at he
  obtain⟨rfl,rfl⟩:=he
  simp only[okL] at hk ⊢
  exact⟨hk.1,trivial⟩
 | t::ts,ts',ds,us,f,hk,hs,he=>by
  simp only[sealCells] at he
  obtain⟨⟨t1,d1⟩,h1,h2⟩:=run_bind he
  obtain⟨⟨ts1,d2⟩,h3,h4⟩:=run_bind h2
  simp only[Rd.run,Option.some.injEq,Prod.mk.injEq] at h4
  obtain⟨rfl,rfl⟩:=h4
  simp only[okL] at hk ⊢
  obtain⟨u,us',f1,f2,rfl,rfl,g1,g2⟩:=hk
  exact⟨u,us',[],[],rfl,rfl,seal0_okV g1 (fun b hb=>hs b (by simp[hb])) h1,sealCells_okL g2 (fun b hb=>hs b (by simp[hb])) h3⟩
def Ileans (I:Nat→Prop) (FS ds:List Nat) (b:Nat):Prop:=I b∨(ds≠[]∧b∈FS)
theorem okV_leans {sz h I FS ds ds' t u} (hk:okV sz h (Ileans I FS ds) t u []) (hs:ds≠[]→ds'≠[]):okV sz h (Ileans I FS ds') t u []:=
 okV_agree ⟨fun b hb=>⟨hb.imp id fun hx=>⟨hs hx.1,hx.2⟩,rfl⟩,fun b hb=>by simp at hb⟩ hk
theorem okL_leans {sz h I FS ds ds' t u} (hk:okL sz h (Ileans I FS ds) t u []) (hs:ds≠[]→ds'≠[]):okL sz h (Ileans I FS ds') t u []:=
 okL_agree ⟨fun b hb=>⟨hb.imp id fun hx=>⟨hs hx.1,hx.2⟩,rfl⟩,fun b hb=>by simp at hb⟩ hk
theorem sealP_ok {sz z rt gh w FS X} {d ver off:Nat} {path:List (Nat×Nat)} {t':T} {ds:List Nat} {u:Value} (r:HRel sz z rt gh w FS X) (hk:okX0 ⟨sz,w.heap,Inow z w (FS++X),rt,gh⟩ (.ptr d ver path off) u) (h:(sealP d ver path off).run rt=some (t',ds)):
  okV sz w.heap (Ileans (Inow z w (FS++X)) FS ds) t' u []:=by
 unfold sealP at h
 ·obtain⟨⟨ad,hu⟩,hp⟩:=hk
  split at h
  ·obtain⟨r0,g1,g2,g3⟩:=run_root h
   split at g3
   ·rename_i hle
    obtain⟨⟨ts,ds'⟩,g4,g5⟩:=run_bind g3
    simp only[Rd.run,Option.some.injEq,Prod.mk.injEq] at g5
    obtain⟨rfl,rfl⟩:=g5
    obtain⟨⟨b,pre,post,el,fz⟩,hb,hub⟩:=hp r0 g1 g2
    obtain⟨f0,w1,w2⟩:=okRts_get r.roots g1
    unfold okRoot at w1
    rw[hb] at w1
    obtain⟨_,fs',arr,rfl,v1,v2,v3,v4⟩:=w1
    simp only at v1 v2 v3 hub
    have hlen:(gh d).vals.length=r0.cells.length:=okL_length v4
    have e1:(r0.cells.take off)++r0.cells.drop off=r0.cells:=List.take_append_drop _ _
    rw[←e1] at v4
    obtain⟨u1,u2,f1,f2,hus,rfl,l1,q1,q2⟩:=okL_split v4
    have hok:=sealCells_okL (FS:=FS) q2 (fun b hb=>w2 b (by simp[hb])) g4
    simp only[okV,true_and]
    refine⟨b,pre.length+off,arr,el,fz,hub,.inr ⟨by simp,w2 b (by simp)⟩,v1,?_⟩
    have e2:arr.toList.drop (pre.length+off)=u2++post:=by
     rw[v3,hus,List.append_assoc,←List.drop_drop,List.drop_left,List.append_assoc,List.drop_append_of_le_length (by rw[l1,List.length_take];omega),List.drop_of_length_le (by rw[l1,List.length_take];omega),List.nil_append]
    rw[e2,←okL_length hok,List.take_append_of_le_length (Nat.le_refl _),List.take_of_length_le (Nat.le_refl _)]
    exact okL_agree ⟨fun b hb=>⟨hb.imp id fun hx=>⟨by simp,hx⟩,rfl⟩,fun b hb=>by simp at hb⟩ hok
   ·simp[Rd.run] at g3
  ·rename_i c0 i rest
   obtain⟨ro,t0,g1,g2,g3,g4⟩:=run_cell h
   split at g4
   ·rename_i cs hd
    split at g4
    ·rename_i hle
     simp only[Rd.run,Option.some.injEq,Prod.mk.injEq] at g4
     obtain⟨rfl,rfl⟩:=g4
     obtain⟨u0,b,o,arr,el,fz,f,m1,m2,m3,m4,m5,m6,m6',m7,m8,m9⟩:=r.locate g1 g3 hd
     have hub:=hp ro g1 g2 cs _ b o (m9 _)
     have e1:(cs.take off)++cs.drop off=cs:=List.take_append_drop _ _
     have hl0:((arr.toList.drop o).take cs.length).length=cs.length:=okL_length m7
     have m7':=m7
     rw[←e1] at m7'
     obtain⟨u1,u2,f1,f2,hus,rfl,l1,q1,q2⟩:=okL_split m7'
     rw[e1] at hus
     have hok:=okL_seal (I':=Ileans (Inow z w (FS++X)) FS [d]) (fun b hb=>.inl hb) (fun b hb=>.inr ⟨by simp,m8 b (by simp[hb])⟩) q2
     simp only[okV,true_and]
     refine⟨b,o+off,arr,el,fz,hub,.inr ⟨by simp,m6⟩,m3,?_⟩
     have hl2:u2.length=cs.length - off:=by have:=okL_length q2;rwa[List.length_drop] at this
     have e2:(arr.toList.drop (o+off)).take (cs.length - off)=u2:=by
      have e0:(u1++u2).drop off=u2:=by
       rw[List.drop_append_of_le_length (by rw[l1,List.length_take];omega),List.drop_of_length_le (by rw[l1,List.length_take];omega),List.nil_append]
      have:=congrArg (List.drop off) hus
      rw[e0,List.drop_take,List.drop_drop] at this
      exact this
     rw[sealL_length,List.length_drop,e2]
     exact hok
    ·simp[Rd.run] at g4
   ·simp[Rd.run] at g4
theorem seal1_ok {sz z rt gh w FS X} {t t':T} {ds:List Nat} {u:Value} (r:HRel sz z rt gh w FS X) (hk:okX0 ⟨sz,w.heap,Inow z w (FS++X),rt,gh⟩ t u) (h:(seal1 t).run rt=some (t',ds)):
  okV sz w.heap (Ileans (Inow z w (FS++X)) FS ds) t' u []:=by
 unfold seal1 at h
 split at h
 ·exact sealP_ok r hk h
 ·rename_i d ver path off
  obtain⟨⟨t1,ds1⟩,h1,h2⟩:=run_bind h
  simp only[Rd.run,Option.some.injEq,Prod.mk.injEq] at h2
  obtain⟨rfl,rfl⟩:=h2
  obtain⟨b,arr,el,fz,u',q1,q2,q3,q4,q5,q6⟩:=hk
  have hv:=sealP_ok r (u:=u') ⟨q5,q6⟩ h1
  simp only[okV,true_and]
  refine⟨b,0,arr,el,fz,q1,.inl q2,q3,?_⟩
  rw[q4]
  exact okL_one.2 hv
 ·exact seal0_ok r hk h
theorem sealCells_ok {sz z rt gh w FS X} (r:HRel sz z rt gh w FS X):∀ {ts ts':List T} {ds:List Nat} {us:List Value},All2 (okX0 ⟨sz,w.heap,Inow z w (FS++X),rt,gh⟩) ts us→(sealCells seal1 ts).run rt=some (ts',ds)→
  okL sz w.heap (Ileans (Inow z w (FS++X)) FS ds) ts' us []
 | [],ts',ds,us,hk,he=>by
  simp only[sealCells,Rd.run,Option.some.injEq,Prod.mk.injEq] at he
  obtain⟨rfl,rfl⟩:=he
  simp only[All2] at hk;subst hk
  simp[okL]
 | t::ts,ts',ds,us,hk,he=>by
  simp only[sealCells] at he
  obtain⟨⟨t1,d1⟩,h1,h2⟩:=run_bind he
  obtain⟨⟨ts1,d2⟩,h3,h4⟩:=run_bind h2
  simp only[Rd.run,Option.some.injEq,Prod.mk.injEq] at h4
  obtain⟨rfl,rfl⟩:=h4
  obtain⟨u,us',rfl,k1,k2⟩:=hk
  simp only[okL]
  exact⟨u,us',[],[],rfl,rfl,okV_leans (seal1_ok r k1 h1) (fun hx hy=>hx (List.append_eq_nil_iff.1 hy).1),okL_leans (sealCells_ok r k2 h3) (fun hx hy=>hx (List.append_eq_nil_iff.1 hy).2)⟩
theorem seal2_ok {sz z rt gh w FS X} {t t':T} {ds:List Nat} {u:Value} (r:HRel sz z rt gh w FS X) (hk:okX ⟨sz,w.heap,Inow z w (FS++X),rt,gh⟩ t u) (h:(seal2 t).run rt=some (t',ds)):
  okV sz w.heap (Ileans (Inow z w (FS++X)) FS ds) t' u []:=by
 unfold seal2 at h
 split at h
 ·obtain⟨⟨ts,ds'⟩,g1,g2⟩:=run_bind h
  simp only[Rd.run,Option.some.injEq,Prod.mk.injEq] at g2
  obtain⟨rfl,rfl⟩:=g2
  obtain⟨us,rfl,k1⟩:=hk
  simp only[okV]
  exact⟨us,rfl,sealCells_ok r k1 g1⟩
 ·obtain⟨⟨ts,ds'⟩,g1,g2⟩:=run_bind h
  simp only[Rd.run,Option.some.injEq,Prod.mk.injEq] at g2
  obtain⟨rfl,rfl⟩:=g2
  obtain⟨us,rfl,k1⟩:=hk
  simp only[okV,true_and]
  exact⟨us,rfl,sealCells_ok r k1 g1⟩
 ·rename_i h1 h2
  have:okX0 ⟨sz,w.heap,Inow z w (FS++X),rt,gh⟩ t u:=by
   cases t<;>first
    | exact hk
    | exact absurd rfl (h1 _)
    | exact absurd rfl (h2 _ _)
    | (simp[seal1,seal0,Rd.run] at h)
  exact seal1_ok r this h
theorem del_mem {α:Type}:∀ {l:List (Nat×α)} {d:Nat} {p:Nat×α},p∈del l d→p∈l∧p.1≠d
 | [],d,p,h=>by simp[del] at h
 | (k,x)::r,d,p,h=>by
  simp only[del] at h
  split at h
  ·exact⟨List.mem_cons_of_mem _ (del_mem h).1,(del_mem h).2⟩
  ·rename_i hk
   rcases List.mem_cons.1 h with rfl | h
   ·exact⟨by simp,hk⟩
   ·exact⟨List.mem_cons_of_mem _ (del_mem h).1,(del_mem h).2⟩
theorem del_srt {α:Type}:∀ {l:List (Nat×α)} {d:Nat},Srt l→Srt (del l d)
 | [],d,_=>by simp[del,Srt]
 | (k,x)::r,d,h=>by
  simp only[del]
  split
  ·exact del_srt h.2
  ·exact⟨fun p hp=>h.1 p (del_mem hp).1,del_srt h.2⟩
theorem lk_del_self {α:Type}:∀ (l:List (Nat×α)) (d:Nat),lk (del l d) d=none
 | [],d=>rfl
 | (k,x)::r,d=>by
  simp only[del]
  split
  ·exact lk_del_self r d
  ·rename_i hk;simp only[lk,if_neg hk];exact lk_del_self r d
theorem lk_del_ne {α:Type}:∀ (l:List (Nat×α)) (d d':Nat),d'≠d→lk (del l d) d'=lk l d'
 | [],d,d',_=>rfl
 | (k,x)::r,d,d',h=>by
  simp only[del]
  split
  ·rename_i hk;subst hk;simp only[lk,if_neg (Ne.symm h)];exact lk_del_ne r k d' h
  ·simp only[lk,lk_del_ne r d d' h]
theorem del_none {α:Type}:∀ {l:List (Nat×α)} {d:Nat},(∀ p,p∈l→p.1≠d)→del l d=l
 | [],d,_=>rfl
 | (k,x)::r,d,h=>by
  simp only[del,if_neg (h (k,x) (by simp))]
  rw[del_none fun p hp=>h p (by simp[hp])]
theorem okRts_del {sz h I gh d ro}:∀ {rt fs},Srt rt→okRts sz h I gh rt fs→lk rt d=some ro→∃ fd rr,Both fs fd rr∧okRoot sz h I (gh d) ro fd∧okRts sz h I gh (del rt d) rr
 | [],fs,_,_,hl=>by simp[lk] at hl
 | (k,y)::rest,fs,hs,hk,hl=>by
  obtain⟨f1,f2,rfl,h1,h2⟩:=hk
  simp only[lk] at hl
  split at hl
  ·rename_i hkd;subst hkd
   simp only[Option.some.injEq] at hl;subst hl
   refine⟨f1,f2,fun x=>by simp,h1,?_⟩
   simp only[del,if_true]
   rw[del_none fun p hp=>by have:=hs.1 p hp;omega]
   exact h2
  ·rename_i hkd
   obtain⟨fd,rr,g1,g2,g3⟩:=okRts_del hs.2 h2 hl
   refine⟨fd,f1++rr,fun x=>by have:=g1 x;simp only[List.count_append];omega,g2,?_⟩
   simp only[del,if_neg hkd]
   exact⟨f1,rr,rfl,h1,g3⟩
theorem HRel.del {sz z rt gh w FS X d ro} (r:HRel sz z rt gh w FS X) (hl:lk rt d=some ro):
  ∃ fd rr,okRoot sz w.heap (Inow z w (rr++(fd++X))) (gh d) ro fd∧HRel sz z (TM.del rt d) gh w rr (fd++X)∧(∀ b,Inow z w (FS++X) b↔Inow z w (rr++(fd++X)) b)∧
   Keeps ⟨sz,w.heap,Inow z w (FS++X),rt,gh⟩ ⟨sz,w.heap,Inow z w (rr++(fd++X)),TM.del rt d,gh⟩ (fun _ _=>True):=by
 obtain⟨fd,rr,h1,h2,h3⟩:=okRts_del r.srt r.roots hl
 have hm:∀ b,b∈FS++X↔b∈rr++(fd++X):=fun b=>by
  rw[←List.count_pos_iff,←List.count_pos_iff]
  have:=h1 b
  simp only[List.count_append]
  omega
 have hI:∀ b,Inow z w (FS++X) b↔Inow z w (rr++(fd++X)) b:=fun b=>by unfold Inow;rw[hm b]
 have hag:∀ {f},Agree w.heap w.heap (Inow z w (FS++X)) (Inow z w (rr++(fd++X))) f:=fun {f}=>⟨fun b hb=>⟨(hI b).1 hb,rfl⟩,fun b _=>rfl⟩
 refine⟨fd,rr,okRoot_agree hag h2,⟨del_srt r.srt,okRts_agree hag h3,fun x=>?_,fun b hb=>r.lt b ((hm b).2 hb),fun b hb=>r.zone b ((hm b).2 hb),r.fr⟩,hI,rfl,fun b hb=>⟨(hI b).1 hb,rfl⟩,?_,?_⟩
 ·have h4:=r.uniq x
  have h5:=h1 x
  simp only[List.count_append] at *
  omega
 ·intro d' s r' _ g1 g2
  by_cases hd:d'=d
  ·subst hd
   rw[show lk (TM.del rt d') d'=none from lk_del_self rt d'] at g1
   simp at g1
  ·have g1:lk (TM.del rt d) d'=some r':=g1
   rw[lk_del_ne rt d d' hd] at g1
   exact⟨r',g1,g2,rfl,skL_self r.roots (fun b _=>rfl) g1⟩
 ·intro d' s r' _ g1 g2
  by_cases hd:d'=d
  ·subst hd
   rw[show lk (TM.del rt d') d'=none from lk_del_self rt d'] at g1
   simp at g1
  ·have g1:lk (TM.del rt d) d'=some r':=g1
   rw[lk_del_ne rt d d' hd] at g1
   exact⟨r',g1,g2,rfl⟩
theorem HRel.back {sz z rt gh w FS X f d} {g:G} {r1:Root} {x0:Cx} {S:Nat→Nat→Prop} (r:HRel sz z rt gh w FS (f++X)) (hr:okRoot sz w.heap (Inow z w (FS++(f++X))) g r1 f) (hd:lk rt d=none)
  (kp:Keeps x0 ⟨sz,w.heap,Inow z w (FS++(f++X)),rt,gh⟩ S) (hS:¬ S d r1.hver) (hb:∃ ro,lk x0.rt d=some ro∧ro.ver=r1.ver∧g.blk=(x0.gh d).blk):
  ∃ FS',HRel sz z (up rt d r1) (gset gh d g) w FS' X∧(∀ b,Inow z w (FS++(f++X)) b→Inow z w (FS'++X) b)∧Keeps x0 ⟨sz,w.heap,Inow z w (FS'++X),up rt d r1,gset gh d g⟩ S:=by
 obtain⟨fo,rr,q1,_,_,_,q4⟩:=okRts_up (d:=d) r.srt r.roots
 obtain⟨FS',p1,p2⟩:=q4 w.heap _ g r1 f ⟨fun b hb=>⟨hb,rfl⟩,fun b _=>rfl⟩ hr
 have hm:∀ b,b∈FS'++X→b∈FS++(f++X):=fun b hb=>by
  have h0:=List.count_pos_iff.2 hb
  have h1:=q1 b
  have h2:=p2 b
  rw[←List.count_pos_iff]
  simp only[List.count_append] at *
  omega
 have hI:∀ b,Inow z w (FS++(f++X)) b→Inow z w (FS'++X) b:=fun b hb=>r.imm_grow (Nat.le_refl _) (fun b hb=>.inl (hm b hb)) hb
 refine⟨FS',⟨up_srt r.srt,okRts_agree ⟨fun b hb=>⟨hI b hb,rfl⟩,fun b _=>rfl⟩ p1,fun x=>?_,fun b hb=>r.lt b (hm b hb),fun b hb=>r.zone b (hm b hb),r.fr⟩,hI,kp.sz,fun b hb=>⟨hI b (kp.old b hb).1,(kp.old b hb).2⟩,?_,?_⟩
 ·have h1:=q1 x
  have h2:=p2 x
  have h3:=r.uniq x
  simp only[List.count_append] at *
  omega
 ·intro d' s r' hs h1 h2
  by_cases he:d'=d
  ·subst he
   simp only[lk_up_self,Option.some.injEq] at h1
   subst h1;subst h2
   exact absurd hs hS
  ·simp only[lk_up_ne _ _ _ _ he] at h1
   obtain⟨r0,g1,g2,g3,g4⟩:=kp.hdr d' s r' hs h1 h2
   exact⟨r0,g1,g2,by simpa[gset,he] using g3,by simpa[gset,he] using g4⟩
 ·intro d' s r' hs h1 h2
  by_cases he:d'=d
  ·subst he
   simp only[lk_up_self,Option.some.injEq] at h1
   subst h1
   obtain⟨ro,g1,g2,g3⟩:=hb
   exact⟨ro,g1,g2.trans h2,by simpa[gset] using g3⟩
  ·simp only[lk_up_ne _ _ _ _ he] at h1
   obtain⟨r0,g1,g2,g3⟩:=kp.top d' s r' hs h1 h2
   exact⟨r0,g1,g2,by simpa[gset,he] using g3⟩
theorem up_del {α:Type}:∀ {l:List (Nat×α)} {d:Nat} {x:α},Srt l→up (del l d) d x=up l d x
 | [],d,x,_=>rfl
 | (k,y)::r,d,x,h=>by
  simp only[del,up]
  by_cases hk:k=d
  ·subst hk
   simp only[if_true]
   rw[del_none fun p hp=>by have:=h.1 p hp;omega]
   cases r with
   | nil=>rfl
   | cons p r=>
    obtain⟨k',y'⟩:=p
    have:k<k':=h.1 (k',y') (by simp)
    simp only[up]
    rw[if_neg (by omega),if_pos this]
  ·simp only[if_neg hk]
   by_cases hlt:d<k
   ·simp only[up,if_neg hk,if_pos hlt]
    rw[del_none fun p hp=>by have:=h.1 p hp;omega]
   ·simp only[up,if_neg hk,if_neg hlt]
    rw[up_del h.2]
theorem lentRow_eq {tick d:Nat}:∀ {cs:List T} {k:Nat} {rt:List (Nat×Root)} {ro:Root},lk rt d=some ro→cs≠[]→k+cs.length=ro.cells.length→
  setCells tick rt (lentRow d k cs)=up rt d { ro with cells:=ro.cells.take k++cs,hver:=nxt tick ro }
 | [],k,rt,ro,_,hn,_=>absurd rfl hn
 | c::cs,k,rt,ro,hl,_,hlen=>by
  simp only[List.length_cons] at hlen
  have h1:setCell tick rt ⟨d,k,c,true⟩=up rt d { ro with cells:=ro.cells.set k c,hver:=nxt tick ro }:=by
   unfold setCell;simp only[hl,if_true]
  simp only[lentRow,setCells,h1]
  have hset:ro.cells.set k c=ro.cells.take k++c::ro.cells.drop (k+1):=by
   rw[List.set_eq_take_append_cons_drop,if_pos (by omega)]
  cases cs with
  | nil=>
   simp only[lentRow,setCells]
   rw[hset,List.drop_of_length_le (by simp at hlen;omega)]
  | cons c' cs=>
   rw[lentRow_eq (ro:={ ro with cells:=ro.cells.set k c,hver:=nxt tick ro }) (lk_up_self _ _ _) (by simp) (by rw[List.length_set];simp at hlen ⊢;omega)]
   have hupup:∀ {l:List (Nat×Root)} {x y:Root},up (up l d x) d y=up l d y:=by
    intro l x y
    induction l with
    | nil=>simp[up]
    | cons p l ih=>
     obtain⟨k',z'⟩:=p
     simp only[up]
     by_cases h:k'=d
     ·simp[h,up]
     ·by_cases h2:d<k'
      ·simp[h,h2,up]
      ·simp only[if_neg h,if_neg h2,up,ih]
   rw[hupup]
   congr 2
   show (ro.cells.set k c).take (k+1)++c'::cs=ro.cells.take k++c::c'::cs
   rw[hset]
   have hk:(ro.cells.take k).length=k:=by rw[List.length_take];simp at hlen;omega
   rw[List.take_append,hk,List.take_of_length_le (by omega)]
   have e1:k+1 - k=1:=by omega
   rw[e1]
   simp
theorem content_congr {rt rt':List (Nat×Root)} {d ver c n:Nat} {path:List (Nat×Nat)} (h:lk rt' d=lk rt d):(content d ver path c n).run rt'=(content d ver path c n).run rt:=by
 cases path with
 | nil=>
  simp only[content,rdPlace,Rd.bind,Rd.run,h]
  split
  ·split
   ·split
    ·split
     ·split<;>rfl
     ·rfl
    ·rfl
   ·rfl
  ·rfl
 | cons p rest=>
  obtain⟨c0,i⟩:=p
  simp only[content,rdPlace,Rd.bind,Rd.run,h]
  split
  ·split
   ·split
    ·split
     ·split
      ·simp only[Rd.bind]
       split
       ·split<;>rfl
       ·rfl
      ·rfl
     ·rfl
    ·rfl
   ·rfl
  ·rfl
theorem run_bind_eq {α β:Type} {rt:List (Nat×Root)}:∀ {m:Rd α} {k:α→Rd β} {a:α},m.run rt=some a→(m.bind k).run rt=(k a).run rt
 | .ret b,k,a,h=>by simp only[Rd.run,Option.some.injEq] at h;subst h;rfl
 | .fail,k,a,h=>by simp[Rd.run] at h
 | .cell hh d v c k0,k,a,h=>by
  obtain⟨r,t,h1,h2,h3,h4⟩:=run_cell h
  simp only[Rd.bind,Rd.run,h1,h2,h3,if_true]
  exact run_bind_eq h4
 | .root hh d v k0,k,a,h=>by
  obtain⟨r,h1,h2,h3⟩:=run_root h
  simp only[Rd.bind,Rd.run,h1,h2,if_true]
  exact run_bind_eq h3
 | .stamp hh d v k0,k,a,h=>by
  obtain⟨r,h1,h2,h3⟩:=run_stamp h
  simp only[Rd.bind,Rd.run,h1,h2,if_true]
  exact run_bind_eq h3
theorem seal0_congr {rt rt':List (Nat×Root)} {t t':T} {ds:List Nat} (h:(seal0 t).run rt=some (t',ds)) (hd:∀ d,d∈ds→lk rt' d=lk rt d):(seal0 t).run rt'=some (t',ds):=by
 unfold seal0 at h ⊢
 split at h
 ·obtain⟨⟨e,es⟩,g1,g2⟩:=run_bind h
  simp only[Rd.run,Option.some.injEq,Prod.mk.injEq] at g2
  obtain⟨rfl,rfl⟩:=g2
  rw[←content_congr (hd _ (by simp))] at g1
  rw[run_bind_eq g1];rfl
 all_goals first | exact h | simp[Rd.run] at h
theorem sealCells_congr {f:T→Rd (T×List Nat)} {rt rt':List (Nat×Root)} (hf:∀ {t t' ds},(f t).run rt=some (t',ds)→(∀ d,d∈ds→lk rt' d=lk rt d)→(f t).run rt'=some (t',ds)):
  ∀ {ts ts':List T} {ds:List Nat},(sealCells f ts).run rt=some (ts',ds)→(∀ d,d∈ds→lk rt' d=lk rt d)→(sealCells f ts).run rt'=some (ts',ds)
 | [],ts',ds,h,_=>h
 | t::ts,ts',ds,h,hd=>by
  simp only[sealCells] at h ⊢
  obtain⟨⟨t1,d1⟩,h1,h2⟩:=run_bind h
  obtain⟨⟨ts1,d2⟩,h3,h4⟩:=run_bind h2
  simp only[Rd.run,Option.some.injEq,Prod.mk.injEq] at h4
  obtain⟨rfl,rfl⟩:=h4
  rw[run_bind_eq (hf h1 fun d hx=>hd d (by simp[hx]))]
  rw[run_bind_eq (sealCells_congr hf h3 fun d hx=>hd d (by simp[hx]))]
  rfl
theorem sealP_congr {rt rt':List (Nat×Root)} {d ver off:Nat} {path:List (Nat×Nat)} {t':T} {ds:List Nat} (h:(sealP d ver path off).run rt=some (t',ds)) (hd:∀ d,d∈ds→lk rt' d=lk rt d):(sealP d ver path off).run rt'=some (t',ds):=by
 unfold sealP at h ⊢
 ·split at h
  ·obtain⟨r0,g1,g2,g3⟩:=run_root h
   split at g3
   ·rename_i hle
    obtain⟨⟨ts,ds'⟩,g4,g5⟩:=run_bind g3
    simp only[Rd.run,Option.some.injEq,Prod.mk.injEq] at g5
    obtain⟨rfl,rfl⟩:=g5
    simp only[Rd.run,hd _ (List.mem_cons_self),g1,g2,if_true,if_pos hle]
    rw[run_bind_eq (sealCells_congr (fun h1 h2=>seal0_congr h1 h2) g4 fun d hx=>hd d (by simp[hx]))]
    rfl
   ·simp[Rd.run] at g3
  ·obtain⟨ro,t0,g1,g2,g3,g4⟩:=run_cell h
   split at g4
   ·rename_i cs hcs
    split at g4
    ·rename_i hle
     simp only[Rd.run,Option.some.injEq,Prod.mk.injEq] at g4
     obtain⟨rfl,rfl⟩:=g4
     simp only[Rd.run,hd _ (List.mem_cons_self),g1,g2,if_true,g3,hcs,if_pos hle]
    ·simp[Rd.run] at g4
   ·simp[Rd.run] at g4
theorem seal1_congr {rt rt':List (Nat×Root)} {t t':T} {ds:List Nat} (h:(seal1 t).run rt=some (t',ds)) (hd:∀ d,d∈ds→lk rt' d=lk rt d):(seal1 t).run rt'=some (t',ds):=by
 unfold seal1 at h ⊢
 split at h
 ·exact sealP_congr h hd
 ·obtain⟨⟨t1,ds1⟩,h1,h2⟩:=run_bind h
  simp only[Rd.run,Option.some.injEq,Prod.mk.injEq] at h2
  obtain⟨rfl,rfl⟩:=h2
  rw[run_bind_eq (sealP_congr h1 hd)]
  rfl
 ·exact seal0_congr h hd
theorem seal2_congr {rt rt':List (Nat×Root)} {t t':T} {ds:List Nat} (h:(seal2 t).run rt=some (t',ds)) (hd:∀ d,d∈ds→lk rt' d=lk rt d):(seal2 t).run rt'=some (t',ds):=by
 unfold seal2 at h ⊢
 split at h
 ·obtain⟨⟨ts,ds'⟩,g1,g2⟩:=run_bind h
  simp only[Rd.run,Option.some.injEq,Prod.mk.injEq] at g2
  obtain⟨rfl,rfl⟩:=g2
  rw[run_bind_eq (sealCells_congr (fun h1 h2=>seal1_congr h1 h2) g1 hd)]
  rfl
 ·obtain⟨⟨ts,ds'⟩,g1,g2⟩:=run_bind h
  simp only[Rd.run,Option.some.injEq,Prod.mk.injEq] at g2
  obtain⟨rfl,rfl⟩:=g2
  rw[run_bind_eq (sealCells_congr (fun h1 h2=>seal1_congr h1 h2) g1 hd)]
  rfl
 ·exact seal1_congr h hd
def okPre (sz:TypeId→Nat) (h:Array Obj) (I:Nat→Prop):Nat→List Arg→List Value→List Nat→Prop
 | _,[],us,f=>us=[]∧f=[]
 | i,a::as,us,f=>∃ u us' f1 f2,us=u::us'∧f=f1++f2∧(∀ r,a.root=some r→r.real=false→okArg sz h I i a u f1)∧((∀ r,a.root=some r→r.real=true)→f1=[])∧okPre sz h I (i+1) as us' f2
theorem okArg_agree {sz h h' I I' i a u f} (ha:Agree h h' I I' f) (hk:okArg sz h I i a u f):okArg sz h' I' i a u f:=by
 unfold okArg at hk ⊢
 split at hk
 ·obtain⟨h1,rfl⟩:=hk
  exact⟨okV_agree ⟨ha.1,fun b hb=>by simp at hb⟩ h1,rfl⟩
 ·obtain⟨g,h1,h2,h3,h4⟩:=hk
  refine⟨g,okRoot_agree ha h1,h2,h3,?_⟩
  rcases h4 with h4 | h4 | ⟨h5,cs,us,h6,h7,h8,h9,h10⟩
  ·exact .inl h4
  ·exact .inr (.inl h4)
  ·exact .inr (.inr ⟨h5,cs,us,h6,h7,h8,h9,okL_agree ⟨ha.1,fun b hb=>by simp at hb⟩ h10⟩)
theorem okL_vw {sz h I}:∀ {cs us f},okL sz h I cs us f→okL sz h I (cs.map vw) us []
 | [],us,f,hk=>by simp only[okL] at hk;simp only[List.map_nil,okL];exact⟨hk.1,trivial⟩
 | c::cs,us,f,hk=>by
  simp only[okL] at hk
  obtain⟨u,us',f1,f2,rfl,rfl,h1,h2⟩:=hk
  simp only[List.map_cons,okL]
  refine⟨u,us',[],[],rfl,rfl,?_,okL_vw h2⟩
  cases c with
  | agg _=>simp[vw,okV]
  | tup _=>simp[vw,okV]
  | own _ _=>simp[vw,okV]
  | obx _=>simp[vw,okV]
  | _=>
   have:=okV_cell h1 rfl rfl
   subst this
   exact h1
theorem okPre_agree {sz h h' I I'}:∀ {as i us f},Agree h h' I I' f→okPre sz h I i as us f→okPre sz h' I' i as us f
 | [],i,us,f,_,hk=>hk
 | a::as,i,us,f,ha,hk=>by
  obtain⟨u,us',f1,f2,rfl,rfl,h1,h2,h3⟩:=hk
  exact⟨u,us',f1,f2,rfl,rfl,fun r hr hr2=>okArg_agree ha.left (h1 r hr hr2),h2,okPre_agree ha.right h3⟩
theorem nilOf_ok {E:Env} (_ht:TiOk E) {x:Cx} {S:Nat→Nat→Prop} {ty:TypeId} {t:T} {u:Value} (hk:okX x t u) (hs:stX S t):okX x (nilOf E ty t) u∧stX S (nilOf E ty t):=by
 unfold nilOf
 split
 ·have hu:=okX_v.1 hk
  subst hu
  split
  ·exact⟨by show okV x.sz x.h x.I (.own _ []) _ [];simp[okV],trivial⟩
  ·exact⟨hk,hs⟩
 ·exact⟨hk,hs⟩
theorem stX_mono {S S':Nat→Nat→Prop} (h:∀ a b,S a b→S' a b) {t:T} (hs:stX S t):stX S' t:=by
 have s0:∀ t,st0 S t→st0 S' t:=fun t ht=>by cases t<;>first | trivial | exact h _ _ ht
 have s1:∀ t,st1 S t→st1 S' t:=fun t ht=>by
  cases t<;>first | trivial | exact h _ _ ht | exact fun c hc=>s0 c (ht c hc)
 cases t<;>first | trivial | exact h _ _ hs | exact fun c hc=>s0 c (hs c hc) | exact fun c hc=>s1 c (hs c hc)
section args
variable {E:Env} {z:Zn} {tick:Nat} {rt0:List (Nat×Root)} {gh:Nat→G} {w:World}
theorem mkArg_take (ht:TiOk E) {rt1 FS1 X D i m ty t u} {q:Arg×List Nat×List (Nat×Nat)×List CSet} (r:HRel (szOf E) z rt1 gh w FS1 X) (p:Pres D rt0 rt1) (h:(mkArg E i m ty t).run rt0=some q) (hap:setsApart q.2.2.2=true)
  (hD:∀ s,s∈q.2.2.2→(s.d,s.c)∉D) (hk:okX ⟨szOf E,w.heap,Inow z w (FS1++X),rt1,gh⟩ t u) (hs:stX (Stm tick rt1) t):
  ∃ FS' f,HRel (szOf E) z (setCells tick rt1 q.2.2.2) gh w FS' (f++X)∧
   Keeps ⟨szOf E,w.heap,Inow z w (FS1++X),rt1,gh⟩ ⟨szOf E,w.heap,Inow z w (FS'++(f++X)),setCells tick rt1 q.2.2.2,gh⟩ (Stm tick rt1)∧
   Pres (places q.2.2.2++D) rt0 (setCells tick rt1 q.2.2.2)∧
   (∀ r,q.1.root=some r→r.real=false→okArg (szOf E) w.heap (Inow z w (FS'++(f++X))) i q.1 u f)∧((∀ r,q.1.root=some r→r.real=true)→f=[]):=by
 have quiet:q.2.2.2=[]→(∀ r,q.1.root=some r→r.real=true)→∃ FS' f,HRel (szOf E) z (setCells tick rt1 q.2.2.2) gh w FS' (f++X)∧
   Keeps ⟨szOf E,w.heap,Inow z w (FS1++X),rt1,gh⟩ ⟨szOf E,w.heap,Inow z w (FS'++(f++X)),setCells tick rt1 q.2.2.2,gh⟩ (Stm tick rt1)∧
   Pres (places q.2.2.2++D) rt0 (setCells tick rt1 q.2.2.2)∧
   (∀ r,q.1.root=some r→r.real=false→okArg (szOf E) w.heap (Inow z w (FS'++(f++X))) i q.1 u f)∧((∀ r,q.1.root=some r→r.real=true)→f=[]):=fun h1 h2=>by
  rw[h1]
  exact⟨FS1,[],r,r.keeps_refl _ fun b hb=>hb,p,fun r' hr hr2=>by rw[h2 r' hr] at hr2;simp at hr2,fun _=>rfl⟩
 unfold mkArg at h
 cases m with
 | R=>
  obtain⟨⟨t',ds⟩,g1,g2⟩:=run_bind h
  simp only[Rd.run,Option.some.injEq] at g2
  subst g2
  exact quiet rfl fun r' hr=>by simp at hr
 | M=>
  dsimp only at h
  split at h
  ·obtain⟨r0,g1,g2,g3⟩:=run_root h
   split at g3
   ·simp only[Rd.run,Option.some.injEq] at g3
    subst g3
    exact quiet rfl fun r' hr=>by simp only[Option.some.injEq] at hr;rw[←hr]
   ·simp[Rd.run] at g3
  ·simp[Rd.run] at h
 | L=>simp[Rd.run] at h
 | N=>simp[Rd.run] at h
 | B=>simp[Rd.run] at h
 | P=>
  dsimp only at h
  split at h
  ·simp only[Rd.run,Option.some.injEq] at h
   subst h
   exact quiet rfl fun r' hr=>by simp at hr
  ·simp[Rd.run] at h
 | V=>
  dsimp only at h
  obtain⟨k1,k2⟩:=nilOf_ok ht (ty:=ty) hk hs
  split at h
  ·rename_i d ver path c n hn
   rw[hn] at k1 k2
   obtain⟨⟨⟨e,es⟩,s⟩,g1,g2⟩:=run_bind h
   simp only[Rd.run,Option.some.injEq] at g2
   subst g2
   obtain⟨q1,q2,q3,FS',f,q4,q5,q6⟩:=r.take (tick:=tick) k1.2 (p.take g1 (hD s (by simp)))
   refine⟨FS',f,q5,q6,p.step q1,fun r' hr _=>?_,fun hr=>?_⟩
   ·refine⟨⟨none,[u]⟩,⟨rfl,okL_one.2 (okV_agree ⟨fun b hb=>q6.old b hb,fun b _=>rfl⟩ q4)⟩,rfl,Nat.zero_le 1,.inr (.inl ⟨rfl,e,es,rfl,by rw[q3],rfl⟩)⟩
   ·have:=hr _ rfl
    simp at this
  ·rename_i e es hn
   rw[hn] at k1 k2
   simp only[Rd.run,Option.some.injEq] at h
   subst h
   have hv:okV (szOf E) w.heap (Inow z w (FS1++X)) (.own e es) u []:=k1
   refine⟨FS1,[],r,r.keeps_refl _ fun b hb=>hb,p,fun r' hr _=>?_,fun _=>rfl⟩
   exact⟨⟨none,[u]⟩,⟨rfl,okL_one.2 hv⟩,rfl,Nat.zero_le 1,.inr (.inl ⟨rfl,e,es,rfl,rfl,rfl⟩)⟩
  ·rename_i cs hn
   rw[hn] at k1 k2
   obtain⟨⟨ts,ss⟩,g1,g2⟩:=run_bind h
   simp only[Rd.run,Option.some.injEq] at g2
   subst g2
   obtain⟨us,rfl,k3⟩:=k1
   obtain⟨FS',f,l1,l2,_⟩:=inlineL_ok (tick:=tick) r p g1 hap hD k3 (fun t ht=>k2 t ht)
   obtain⟨f',m1,m2⟩:=okMix_of_L (x:=⟨szOf E,w.heap,Inow z w (FS'++(f++X)),setCells tick rt1 ss,gh⟩) (S:=Stm tick rt1) l2
   obtain⟨r',hI⟩:=fewer_floats (X':=f'++X) l1.rel (fun x=>by have:=m1 x;simp only[List.count_append];omega)
   refine⟨FS',f',r',l1.keeps.trans (l1.rel.keeps_refl (Stm tick rt1) hI) (fun _ _ h=>h),l1.pres,fun r0 hr _=>?_,fun hr=>?_⟩
   ·refine⟨⟨none,us⟩,⟨rfl,okL_agree ⟨fun b hb=>⟨hI b hb,rfl⟩,fun b _=>rfl⟩ (okMix_root m2)⟩,rfl,Nat.zero_le 1,.inr (.inr ⟨rfl,ts,us,rfl,rfl,rfl,rfl,okL_agree ⟨fun b hb=>⟨hI b hb,rfl⟩,fun b hb=>by simp at hb⟩ (okL_vw l2)⟩)⟩
   ·have:=hr _ rfl
    simp at this
  ·simp[Rd.run] at h
end args
def dels:List (Nat×Root)→List Nat→List (Nat×Root)
 | rt,[]=>rt
 | rt,d::ds=>dels (del rt d) ds
theorem lk_dels_ne:∀ {ds:List Nat} {rt:List (Nat×Root)} {d:Nat},d∉ds→lk (dels rt ds) d=lk rt d
 | [],rt,d,_=>rfl
 | e::ds,rt,d,h=>by
  simp only[List.mem_cons,not_or] at h
  simp only[dels]
  rw[lk_dels_ne h.2,lk_del_ne rt e d h.1]
def okLents (sz:TypeId→Nat) (h:Array Obj) (I:Nat→Prop) (gh:Nat→G) (rt:List (Nat×Root)):List Nat→List Nat→Prop
 | [],f=>f=[]
 | d::ds,f=>∃ ro f1 f2,f=f1++f2∧lk rt d=some ro∧okRoot sz h I (gh d) ro f1∧okLents sz h I gh rt ds f2
theorem okLents_agree {sz h h' I I' gh rt rt'}:∀ {ds f},Agree h h' I I' f→(∀ d,d∈ds→lk rt' d=lk rt d)→okLents sz h I gh rt ds f→okLents sz h' I' gh rt' ds f
 | [],f,_,_,hk=>hk
 | d::ds,f,ha,hd,hk=>by
  obtain⟨ro,f1,f2,rfl,h1,h2,h3⟩:=hk
  exact⟨ro,f1,f2,rfl,by rw[hd d (by simp)];exact h1,okRoot_agree ha.left h2,okLents_agree ha.right (fun d hx=>hd d (by simp[hx])) h3⟩
theorem dels_ok {sz z gh w}:∀ {ds:List Nat} {rt FS X},HRel sz z rt gh w FS X→distinct ds=true→(∀ d,d∈ds→∃ ro,lk rt d=some ro)→
  ∃ FS' fM,HRel sz z (dels rt ds) gh w FS' (fM++X)∧(∀ b,Inow z w (FS++X) b↔Inow z w (FS'++(fM++X)) b)∧
   Keeps ⟨sz,w.heap,Inow z w (FS++X),rt,gh⟩ ⟨sz,w.heap,Inow z w (FS'++(fM++X)),dels rt ds,gh⟩ (fun _ _=>True)∧
   okLents sz w.heap (Inow z w (FS'++(fM++X))) gh rt ds fM
 | [],rt,FS,X,r,_,_=>⟨FS,[],r,fun b=>Iff.rfl,r.keeps_refl _ fun b hb=>hb,rfl⟩
 | d::ds,rt,FS,X,r,hd,hl=>by
  simp only[distinct,Bool.and_eq_true,Bool.not_eq_true',List.contains_eq_mem,decide_eq_false_iff_not] at hd
  obtain⟨ro,hro⟩:=hl d (by simp)
  obtain⟨fd,rr,h1,h2,h3,h4⟩:=r.del hro
  obtain⟨FS',fM,k1,k2,k3,k4⟩:=dels_ok h2 hd.2 (fun e he=>by
   obtain⟨ro',h5⟩:=hl e (by simp[he])
   exact⟨ro',by rw[lk_del_ne rt d e (fun hh=>hd.1 (hh▸he))];exact h5⟩)
  obtain⟨r',hI⟩:=k1.perm (X':=(fd++fM)++X) fun x=>by simp only[List.count_append];omega
  refine⟨FS',fd++fM,r',fun b=>(h3 b).trans ((k2 b).trans (hI b)),?_,ro,fd,fM,rfl,hro,?_,?_⟩
  ·exact (h4.trans k3 fun _ _ h=>h).trans (k1.keeps_refl (fun _ _=>True) fun b hb=>(hI b).1 hb) fun _ _ h=>h
  ·exact okRoot_agree ⟨fun b hb=>⟨(hI b).1 ((k2 b).1 hb),rfl⟩,fun b _=>rfl⟩ h1
  ·exact okLents_agree ⟨fun b hb=>⟨(hI b).1 hb,rfl⟩,fun b _=>rfl⟩ (fun e he=>(lk_del_ne rt d e (fun hh=>hd.1 (hh▸he))).symm) k4
section args
variable {E:Env} {z:Zn} {tick:Nat} {rt0:List (Nat×Root)} {gh:Nat→G} {w:World}
theorem mkArgs_takes (ht:TiOk E):∀ {ts:List T} {i:Nat} {ms:List Mode} {tys:List TypeId} {us:List Value} {l:Lends} {rt1 FS1 X D},HRel (szOf E) z rt1 gh w FS1 X→Pres D rt0 rt1→
  (mkArgs E i ms tys ts).run rt0=some l→setsApart l.sets=true→(∀ s,s∈l.sets→(s.d,s.c)∉D)→All2 (okX ⟨szOf E,w.heap,Inow z w (FS1++X),rt1,gh⟩) ts us→(∀ t,t∈ts→stX (Stm tick rt1) t)→
  ∃ FS' f,HRel (szOf E) z (setCells tick rt1 l.sets) gh w FS' (f++X)∧
   Keeps ⟨szOf E,w.heap,Inow z w (FS1++X),rt1,gh⟩ ⟨szOf E,w.heap,Inow z w (FS'++(f++X)),setCells tick rt1 l.sets,gh⟩ (Stm tick rt1)∧
   okPre (szOf E) w.heap (Inow z w (FS'++(f++X))) i l.args us f
 | [],i,ms,tys,us,l,rt1,FS1,X,D,r,p,h,_,_,hk,_=>by
  simp only[mkArgs,Rd.run,Option.some.injEq] at h
  subst h
  simp only[All2] at hk;subst hk
  exact⟨FS1,[],r,r.keeps_refl _ fun b hb=>hb,rfl,rfl⟩
 | t::ts,i,ms,tys,us,l,rt1,FS1,X,D,r,p,h,hap,hD,hk,hs=>by
  simp only[mkArgs] at h
  obtain⟨q,h1,h2⟩:=run_bind h
  obtain⟨l',h3,h4⟩:=run_bind h2
  simp only[Rd.run,Option.some.injEq] at h4
  subst h4
  obtain⟨u,us',rfl,k1,k2⟩:=hk
  dsimp only at hap hD
  obtain⟨a1,a2,a3⟩:=setsApart_append hap
  obtain⟨FS2,f1,r2,kp2,p2,o1,o2⟩:=mkArg_take (tick:=tick) ht r p h1 a1 (fun s hx=>hD s (by simp[hx])) k1 (hs t (by simp))
  obtain⟨FS3,f2,r3,kp3,o3⟩:=mkArgs_takes ht r2 p2 h3 a2 (fun s hx=>by
   have h5:=hD s (by simp[hx])
   have h6:=a3 s hx
   simp only[List.mem_append,not_or]
   exact⟨h6,h5⟩) (k2.imp fun t u hm hx=>kp2.x (hs t (by simp[hm])) hx) (fun t hm=>stX_mono (fun a b=>Stm_sets a b) (hs t (by simp[hm])))
  have hrt:setCells tick rt1 (q.2.2.2++l'.sets)=setCells tick (setCells tick rt1 q.2.2.2) l'.sets:=setCells_append
  obtain⟨r4,hI⟩:=r3.perm (X':=(f1++f2)++X) fun x=>by simp only[List.count_append];omega
  refine⟨FS3,f1++f2,by rw[hrt];exact r4,?_,u,us',f1,f2,rfl,rfl,fun r' hr hr2=>?_,o2,?_⟩
  ·rw[hrt]
   exact (kp2.trans kp3 fun a b h=>Stm_sets a b h).trans (r3.keeps_refl (Stm tick rt1) fun b hb=>(hI b).1 hb) fun _ _ h=>h
  ·exact okArg_agree ⟨fun b hb=>⟨(hI b).1 (kp3.old b hb).1,rfl⟩,fun b _=>rfl⟩ (o1 r' hr hr2)
  ·exact okPre_agree ⟨fun b hb=>⟨(hI b).1 hb,rfl⟩,fun b _=>rfl⟩ o3
theorem mkArgs_all {sz:TypeId→Nat} {I' I'':Nat→Prop} {rt':List (Nat×Root)} {x':Cx}:∀ {ts:List T} {i:Nat} {ms:List Mode} {tys:List TypeId} {us:List Value} {l:Lends} {fV fM:List Nat},
  (mkArgs E i ms tys ts).run rt0=some l→okPre sz w.heap I' i l.args us fV→okLents sz w.heap I' gh rt' (l.lent.map (·.2)) fM→
  (∀ b,I' b→I'' b)→(∀ d,d∈l.lent.map (·.2)→lk rt' d=lk rt0 d)→
  (∀ t t' u ty ds,t∈ts→okX x' t u→(seal2 (nilOf E ty t)).run rt0=some (t',ds)→(∀ d,d∈ds→d∈l.used)→okV sz w.heap I'' t' u [])→
  (∀ d ver u,okX x' (.ptr d ver [] 0) u→∀ r,lk rt0 d=some r→r.ver=ver→lk rt' d=lk rt0 d→∃ b,(gh d).blk=some b∧u=.pointer (some ⟨b.b,b.pre.length,none⟩))→
  All2 (okX x') ts us→∃ f,okArgs sz w.heap I'' i l.args us f∧∀ b,f.count b=fV.count b+fM.count b
 | [],i,ms,tys,us,l,fV,fM,h,hV,hM,hI,_,_,_,hk=>by
  simp only[mkArgs,Rd.run,Option.some.injEq] at h
  subst h
  obtain⟨rfl,rfl⟩:=hV
  have hM:fM=[]:=hM
  subst hM
  exact⟨[],⟨rfl,rfl⟩,fun b=>by simp⟩
 | t::ts,i,ms,tys,us,l,fV,fM,h,hV,hM,hI,hl,hR,hP,hk=>by
  simp only[mkArgs] at h
  obtain⟨q,h1,h2⟩:=run_bind h
  obtain⟨l',h3,h4⟩:=run_bind h2
  simp only[Rd.run,Option.some.injEq] at h4
  subst h4
  obtain⟨u,us',rfl,k1,k2⟩:=hk
  obtain⟨u0,us0,f1,f2,he,rfl,o1,o2,o3⟩:=hV
  simp only[List.cons.injEq] at he
  obtain⟨rfl,rfl⟩:=he
  dsimp only at hM hl hR o1 o2 o3 ⊢
  have rec_:∀ {fM'},okLents sz w.heap I' gh rt' (l'.lent.map (·.2)) fM'→∃ f,okArgs sz w.heap I'' (i+1) l'.args us' f∧∀ b,f.count b=f2.count b+fM'.count b:=fun hM'=>
   mkArgs_all h3 o3 hM' hI (fun d hd=>hl d (by rw[List.map_append,List.mem_append];exact .inr hd)) (fun t t' u ty ds ht hk hs hu=>hR t t' u ty ds (by simp[ht]) hk hs (fun d hd=>by simp[hu d hd])) hP k2
  unfold mkArg at h1
  cases m0:ms.headD .R with
  | R=>
   rw[m0] at h1
   obtain⟨⟨t',ds⟩,g1,g2⟩:=run_bind h1
   simp only[Rd.run,Option.some.injEq] at g2
   subst g2
   have hf1:f1=[]:=o2 fun r hr=>by simp at hr
   subst hf1
   obtain⟨f,p1,p2⟩:=rec_ (fM':=fM) (by simpa using hM)
   exact⟨f,⟨u,us',[],f,rfl,rfl,⟨hR t t' u _ ds (by simp) k1 g1 (fun d hd=>by simp[hd]),rfl⟩,p1⟩,fun b=>by simpa using p2 b⟩
  | M=>
   rw[m0] at h1
   dsimp only at h1
   split at h1
   ·rename_i d ver
    obtain⟨r0,g1,g2,g3⟩:=run_root h1
    split at g3
    ·rename_i hreal
     simp only[Rd.run,Option.some.injEq] at g3
     subst g3
     have hf1:f1=[]:=o2 fun r hr=>by simp only[Option.some.injEq] at hr;rw[←hr]
     subst hf1
     simp only[List.map_cons,List.cons_append,List.nil_append] at hM
     obtain⟨ro,fd,fM',rfl,w1,w2,w3⟩:=hM
     obtain⟨f,p1,p2⟩:=rec_ w3
     have hsame:=hl d (by simp)
     rw[hsame,g1] at w1
     simp only[Option.some.injEq] at w1;subst w1
     obtain⟨b,hb,hu⟩:=hP d ver u k1 r0 g1 g2 hsame
     have hro:okRoot sz w.heap I' (gh d) ⟨0,1,true,r0.cells⟩ fd:=by
      unfold okRoot at w2 ⊢
      rw[hb] at w2 ⊢
      exact⟨rfl,w2.2⟩
     refine⟨fd++f,⟨u,us',fd,f,rfl,rfl,?_,p1⟩,fun b=>by have:=p2 b;simp only[List.count_append,List.count_nil] at *;omega⟩
     exact⟨gh d,okRoot_agree ⟨fun b hb=>⟨hI b hb,rfl⟩,fun b _=>rfl⟩ hro,rfl,Nat.le_refl 1,.inl ⟨rfl,rfl,b,hb,hu⟩⟩
    ·simp[Rd.run] at g3
   ·simp[Rd.run] at h1
  | L=>rw[m0] at h1;simp[Rd.run] at h1
  | N=>rw[m0] at h1;simp[Rd.run] at h1
  | B=>rw[m0] at h1;simp[Rd.run] at h1
  | P=>
   rw[m0] at h1
   dsimp only at h1
   split at h1
   ·rename_i x
    simp only[Rd.run,Option.some.injEq] at h1
    subst h1
    have hf1:f1=[]:=o2 fun r hr=>by simp at hr
    subst hf1
    obtain⟨f,p1,p2⟩:=rec_ (fM':=fM) (by simpa using hM)
    have hu:u=x:=okX_v.1 k1
    exact⟨f,⟨u,us',[],f,rfl,rfl,⟨by simp only[okV];exact⟨hu,trivial⟩,rfl⟩,p1⟩,fun b=>by simpa using p2 b⟩
   ·simp[Rd.run] at h1
  | V=>
   rw[m0] at h1
   dsimp only at h1
   have fin:∀ r,q.1.root=some r→r.real=false→q.2.2.1=[]→∃ f,okArgs sz w.heap I'' i (q.1::l'.args) (u::us') f∧∀ b,f.count b=(f1++f2).count b+fM.count b:=fun r hr hr2 hq=>by
    rw[hq] at hM
    obtain⟨f,p1,p2⟩:=rec_ (fM':=fM) (by simpa using hM)
    exact⟨f1++f,⟨u,us',f1,f,rfl,rfl,okArg_agree ⟨fun b hb=>⟨hI b hb,rfl⟩,fun b _=>rfl⟩ (o1 r hr hr2),p1⟩,fun b=>by have:=p2 b;simp only[List.count_append] at *;omega⟩
   split at h1
   ·obtain⟨⟨⟨e,es⟩,s⟩,g1,g2⟩:=run_bind h1
    simp only[Rd.run,Option.some.injEq] at g2
    subst g2
    exact fin _ rfl rfl rfl
   ·simp only[Rd.run,Option.some.injEq] at h1
    subst h1
    exact fin _ rfl rfl rfl
   ·obtain⟨⟨ts0,ss0⟩,g1,g2⟩:=run_bind h1
    simp only[Rd.run,Option.some.injEq] at g2
    subst g2
    exact fin _ rfl rfl rfl
   ·simp[Rd.run] at h1
end args
theorem HRel.after {sz z rt gh w FS X} (r:HRel sz z rt gh w FS X) {z':Zn} {w':World} {X':List Nat} (hw:z'.w0=w) (hF:∀ b,b∈z'.F0→b∈X) (fr:Fr z' w') (hu:Uniq X')
  (hz:∀ b,b∈X'→b<w'.heap.size∧(b∈z'.F0∨w.heap.size≤b)):
  HRel sz z rt gh w' FS X'∧Keeps ⟨sz,w.heap,Inow z w (FS++X),rt,gh⟩ ⟨sz,w'.heap,Inow z w' (FS++X'),rt,gh⟩ (fun _ _=>True)∧(∀ b,Inow z w (FS++X) b→Inow z w' (FS++X') b):=by
 subst hw
 have hsz:z'.w0.heap.size≤w'.heap.size:=fr.size
 have hdis:∀ b,b∈FS→b∉X:=fun b h1 h2=>by
  have:=r.uniq b
  have h3:=List.count_pos_iff.2 h1
  have h4:=List.count_pos_iff.2 h2
  simp only[List.count_append] at this
  omega
 have hFS:∀ b,b∈FS→w'.heap[b]?=z'.w0.heap[b]?:=fun b hb=>fr.block b (r.lt b (by simp[hb])) fun h=>hdis b hb (hF b h)
 have hI:∀ b,Inow z z'.w0 (FS++X) b→Inow z w' (FS++X') b:=fun b hb=>r.imm_grow hsz (fun b hb=>by
  rcases List.mem_append.1 hb with hb | hb
  ·exact .inl (by simp[hb])
  ·rcases (hz b hb).2 with h | h
   ·exact .inl (by simp[hF b h])
   ·exact .inr h) hb
 have hag:∀ b,Inow z z'.w0 (FS++X) b→Inow z w' (FS++X') b∧w'.heap[b]?=z'.w0.heap[b]?:=fun b hb=>
  ⟨hI b hb,fr.block b (r.imm hb).1 fun h=>(r.imm hb).2 (by simp[hF b h])⟩
 refine⟨⟨r.srt,okRts_agree ⟨hag,hFS⟩ r.roots,fun x=>?_,fun b hb=>?_,fun b hb=>?_,?_⟩,⟨rfl,hag,fun d s r' _ h1 h2=>⟨r',h1,h2,rfl,skL_self r.roots hFS h1⟩,fun d s r' _ h1 h2=>⟨r',h1,h2,rfl⟩⟩,hI⟩
 ·have h1:=r.uniq x
  have h2:=hu x
  simp only[List.count_append] at *
  by_cases hx:x∈FS
  ·have hnx:X'.count x=0:=List.count_eq_zero.2 fun hm=>by
    rcases (hz x hm).2 with h | h
    ·exact hdis x hx (hF x h)
    ·have:=r.lt x (by simp[hx]);omega
   omega
  ·have:FS.count x=0:=List.count_eq_zero.2 hx
   omega
 ·rcases List.mem_append.1 hb with hb | hb
  ·have:=r.lt b (by simp[hb]);omega
  ·exact (hz b hb).1
 ·rcases List.mem_append.1 hb with hb | hb
  ·exact r.zone b (by simp[hb])
  ·rcases (hz b hb).2 with h | h
   ·exact r.zone b (by simp[hF b h])
   ·have:=r.fr.size;exact .inr (by omega)
 ·exact r.fr.step r.zone fr.os fr.output fr.tape hsz fun b hb hn=>fr.block b hb fun h=>hn (by simp[hF b h])
theorem setCell_other {tick rt s d} (h:d≠s.d):lk (setCell tick rt s) d=lk rt d:=by
 unfold setCell
 split
 ·rw[lk_up_ne _ _ _ _ h]
 ·rfl
theorem setCells_other {tick}:∀ {ss:List CSet} {rt d},d∉ss.map (·.d)→lk (setCells tick rt ss) d=lk rt d
 | [],rt,d,_=>rfl
 | s::ss,rt,d,h=>by
  simp only[List.map_cons,List.mem_cons,not_or] at h
  simp only[setCells]
  rw[setCells_other h.2,setCell_other h.1]
theorem mkArgs_lent {E:Env} {rt0:List (Nat×Root)}:∀ {ts:List T} {i:Nat} {ms:List Mode} {tys:List TypeId} {l:Lends},(mkArgs E i ms tys ts).run rt0=some l→
  ∀ d,d∈l.lent.map (·.2)→∃ ro,lk rt0 d=some ro
 | [],i,ms,tys,l,h,d,hd=>by
  simp only[mkArgs,Rd.run,Option.some.injEq] at h
  subst h
  simp at hd
 | t::ts,i,ms,tys,l,h,d,hd=>by
  simp only[mkArgs] at h
  obtain⟨q,h1,h2⟩:=run_bind h
  obtain⟨l',h3,h4⟩:=run_bind h2
  simp only[Rd.run,Option.some.injEq] at h4
  subst h4
  simp only[List.map_append,List.mem_append] at hd
  rcases hd with hd | hd
  ·unfold mkArg at h1
   cases m0:ms.headD .R with
   | R=>
    rw[m0] at h1
    obtain⟨⟨t',ds⟩,g1,g2⟩:=run_bind h1
    simp only[Rd.run,Option.some.injEq] at g2
    subst g2
    simp at hd
   | M=>
    rw[m0] at h1
    dsimp only at h1
    split at h1
    ·obtain⟨r0,g1,g2,g3⟩:=run_root h1
     split at g3
     ·simp only[Rd.run,Option.some.injEq] at g3
      subst g3
      simp only[List.map_cons,List.map_nil,List.mem_singleton] at hd
      subst hd
      exact⟨r0,g1⟩
     ·simp[Rd.run] at g3
    ·simp[Rd.run] at h1
   | L=>rw[m0] at h1;simp[Rd.run] at h1
   | N=>rw[m0] at h1;simp[Rd.run] at h1
   | B=>rw[m0] at h1;simp[Rd.run] at h1
   | P=>
    rw[m0] at h1
    dsimp only at h1
    split at h1
    ·simp only[Rd.run,Option.some.injEq] at h1
     subst h1
     simp at hd
    ·simp[Rd.run] at h1
   | V=>
    rw[m0] at h1
    dsimp only at h1
    split at h1
    ·obtain⟨⟨⟨e,es⟩,s⟩,g1,g2⟩:=run_bind h1
     simp only[Rd.run,Option.some.injEq] at g2
     subst g2
     simp at hd
    ·simp only[Rd.run,Option.some.injEq] at h1
     subst h1
     simp at hd
    ·obtain⟨⟨ts0,ss0⟩,g1,g2⟩:=run_bind h1
     simp only[Rd.run,Option.some.injEq] at g2
     subst g2
     simp at hd
    ·simp[Rd.run] at h1
  ·exact mkArgs_lent h3 d hd
theorem up_head {α:Type} {l:List (Nat×α)} {d:Nat} {x:α} (h:∀ p,p∈l→d<p.1):up l d x=(d,x)::l:=by
 cases l with
 | nil=>rfl
 | cons p r=>
  obtain⟨k,y⟩:=p
  have:d<k:=h (k,y) (by simp)
  simp only[up]
  rw[if_neg (by omega),if_pos this]
theorem del_up_ne {α:Type} {d e:Nat} {x:α} (h:e≠d):∀ {l:List (Nat×α)},Srt l→del (up l d x) e=up (del l e) d x
 | [],_=>by simp[up,del,Ne.symm h]
 | (k,y)::r,hs=>by
  by_cases hk:k=d
  ·subst hk
   simp[up,del,Ne.symm h]
  ·by_cases hlt:d<k
   ·have h1:up ((k,y)::r) d x=(d,x)::(k,y)::r:=by simp only[up,if_neg hk,if_pos hlt]
    rw[h1]
    have h2:del ((d,x)::(k,y)::r) e=(d,x)::del ((k,y)::r) e:=by
     simp only[del,if_neg (Ne.symm h)]
    rw[h2,up_head fun p hp=>?_]
    have:=(del_mem hp).1
    rcases List.mem_cons.1 this with rfl | hp
    ·exact hlt
    ·have:=hs.1 p hp;omega
   ·have h1:up ((k,y)::r) d x=(k,y)::up r d x:=by simp only[up,if_neg hk,if_neg hlt]
    rw[h1]
    by_cases hke:k=e
    ·simp only[del,if_pos hke]
     exact del_up_ne h hs.2
    ·simp only[del,if_neg hke,up,if_neg hk,if_neg hlt]
     rw[del_up_ne h hs.2]
theorem dels_up {d:Nat} {x:Root}:∀ {ds:List Nat} {l:List (Nat×Root)},d∉ds→Srt l→dels (up l d x) ds=up (dels l ds) d x
 | [],l,_,_=>rfl
 | e::ds,l,h,hs=>by
  simp only[List.mem_cons,not_or] at h
  simp only[dels]
  rw[del_up_ne (Ne.symm h.1) hs,dels_up h.2 (del_srt hs)]
theorem blk_same {B B':Blk} {h0:Array Obj} {arr0 arr0':Array Value} {vals0 vals0':List Value} (hb:B'.b=B.b) (hp:B'.pre.length=B.pre.length) (h1:h0[B.b]?=some (.cells arr0 B.el B.fz)) (h2:arr0.toList=B.pre++vals0++B.post)
  (h1':h0[B'.b]?=some (.cells arr0' B'.el B'.fz)) (h2':arr0'.toList=B'.pre++vals0'++B'.post) (hl:vals0'.length=vals0.length):B'=B∧vals0'=vals0:=by
 obtain⟨b,pre,post,el,fz⟩:=B
 obtain⟨b',pre',post',el',fz'⟩:=B'
 simp only at hb hp h1 h2 h1' h2'
 subst hb
 rw[h1] at h1'
 simp only[Option.some.injEq,Obj.cells.injEq] at h1'
 obtain⟨rfl,rfl,rfl⟩:=h1'
 rw[h2,List.append_assoc,List.append_assoc] at h2'
 obtain⟨rfl,h3⟩:=List.append_inj h2' hp.symm
 obtain⟨rfl,rfl⟩:=List.append_inj h3 hl.symm
 exact⟨rfl,rfl⟩
theorem backs_ok {h0:Array Obj} {sz z tick} {w':World} {us:List Value} {args:List Arg} {x0:Cx} {S:Nat→Nat→Prop} {X:List Nat} {Io:Nat→Prop}:∀ {ls:List (Nat×Nat)} {os:List (Nat×List T)} {rt gh FS fo s},Srt rt→distinct (ls.map (·.2))=true→
  (∀ i d,(i,d)∈ls→∃ ro r0 b,lk rt d=some ro∧lk x0.rt d=some r0∧r0.ver=ro.ver∧¬ S d (nxt tick ro)∧(x0.gh d).blk=some b∧us[i]?=some (.pointer (some ⟨Blk.b b,b.pre.length,none⟩))∧ro.real=true∧(∀ ra,(args[i]?).bind (·.root)=some ra→ra.cells.length=ro.cells.length)∧
   ∃ arr0 vals0,h0[b.b]?=some (.cells arr0 b.el b.fz)∧arr0.toList=b.pre++vals0++b.post∧vals0.length=ro.cells.length)→
  HRel sz z (dels rt (ls.map (·.2))) gh w' FS (fo++X)→okOuts sz h0 w'.heap Io args us os fo→(∀ b,Io b→Inow z w' (FS++(fo++X)) b)→comeBack args os ls=some s→
  Keeps x0 ⟨sz,w'.heap,Inow z w' (FS++(fo++X)),dels rt (ls.map (·.2)),gh⟩ S→
  ∃ gh' FS',HRel sz z (setCells tick rt s) gh' w' FS' X∧Keeps x0 ⟨sz,w'.heap,Inow z w' (FS'++X),setCells tick rt s,gh'⟩ S∧∀ b,Inow z w' (FS++(fo++X)) b→Inow z w' (FS'++X) b
 | [],[],rt,gh,FS,fo,s,hs,_,_,r,ho,_,hc,kp=>by
  simp only[comeBack,Option.some.injEq] at hc;subst hc
  simp only[okOuts] at ho;subst ho
  exact⟨gh,FS,r,kp,fun b hb=>hb⟩
 | [],_::_,_,_,_,_,_,_,_,_,_,_,_,hc,_=>by simp[comeBack] at hc
 | (_,_)::_,[],_,_,_,_,_,_,_,_,_,_,_,hc,_=>by simp[comeBack] at hc
 | (j,d)::ls,(i,cs)::os,rt,gh,FS,fo,s,hs,hd,hl,r,ho,hI,hc,kp=>by
  simp only[comeBack] at hc
  split at hc
  ·rename_i hij;subst hij
   split at hc
   ·rename_i ra hra
    split at hc
    ·rename_i hcl
     obtain⟨c1,c2⟩:=hcl
     split at hc
     ·rename_i s' hs'
      simp only[Option.some.injEq] at hc;subst hc
      simp only[List.map_cons,distinct,Bool.and_eq_true,Bool.not_eq_true',List.contains_eq_mem,decide_eq_false_iff_not] at hd
      obtain⟨ro,r0,B,l1,l2,l3,l4,l5,l6,l7,l8,arr0,vals0,l9,l10,l11⟩:=hl i d (by simp)
      obtain⟨B',f1,f2,arr,vals,rfl,o1,o2,o3,o4,o5,⟨arr0',vals0',p1,p2,p3⟩,o6⟩:=ho
      rw[l6] at o1
      simp only[Option.some.injEq,Value.pointer.injEq,Addr.mk.injEq] at o1
      obtain⟨y1,y2,_⟩:=o1
      obtain⟨rfl,rfl⟩:=blk_same y1.symm y2.symm l9 l10 p1 p2 (by rw[(p3 ra hra).1,l8 ra hra,l11])
      simp only[List.map_cons,dels] at r kp
      have hperm:HRel sz z (dels (del rt d) (ls.map (·.2))) gh w' FS ((B'.b::f1)++(f2++X)):=by rw[←List.append_assoc];exact r
      have hno:lk (dels (del rt d) (ls.map (·.2))) d=none:=by rw[lk_dels_ne hd.1];exact lk_del_self rt d
      have happ:(B'.b::f1)++(f2++X)=(B'.b::f1)++f2++X:=(List.append_assoc _ _ _).symm
      obtain⟨FS',k1,k2,k3⟩:=HRel.back (g:=⟨some B',vals⟩) (r1:={ ro with cells:=cs,hver:=nxt tick ro }) (d:=d) (x0:=x0) (S:=S) hperm
       ⟨l7,f1,arr,rfl,o2,o3,o4,okL_agree ⟨fun y hy=>⟨by rw[happ];exact hI y hy,rfl⟩,fun y _=>rfl⟩ o5⟩ hno (by rw[happ];exact kp) l4 ⟨r0,l2,l3,by rw[l5]⟩
      have hlen:cs.length=ro.cells.length:=by rw[c1];exact l8 ra hra
      have hrow:=lentRow_eq (tick:=tick) (cs:=cs) (k:=0) l1 (by intro h;subst h;simp at c2) (by omega)
      have hup:dels (up rt d { ro with cells:=cs,hver:=nxt tick ro }) (ls.map (·.2))=up (dels (del rt d) (ls.map (·.2))) d { ro with cells:=cs,hver:=nxt tick ro }:=by
       rw[←up_del hs,dels_up hd.1 (del_srt hs)]
      rw[←hup] at k1 k3
      obtain⟨gh',FS2,m1,m2,m3⟩:=backs_ok (tick:=tick) (us:=us) (args:=args) (x0:=x0) (S:=S) (X:=X) (Io:=Io) (up_srt hs) hd.2 (fun i' d' hm=>by
       obtain⟨ro',r0',b',n1,n2⟩:=hl i' d' (by simp[hm])
       refine⟨ro',r0',b',?_,n2⟩
       rw[lk_up_ne _ _ _ _ (fun he=>hd.1 (by rw[←he];exact List.mem_map.2 ⟨(i',d'),hm,rfl⟩))]
       exact n1) k1 o6 (fun y hy=>k2 y (by rw[happ];exact hI y hy)) hs' k3
      refine⟨gh',FS2,?_,?_,fun y hy=>m3 y (k2 y (by rw[happ];exact hy))⟩
      ·rw[setCells_append,hrow];simpa using m1
      ·rw[setCells_append,hrow];simpa using m2
     ·simp at hc
    ·simp at hc
   ·simp at hc
  ·simp at hc
theorem okOuts_floats {sz h0 h I I' args us} (hI:∀ b,I b→I' b):∀ {os f},okOuts sz h0 h I args us os f→okOuts sz h0 h I' args us os f
 | [],f,hk=>hk
 | (i,cs)::os,f,hk=>by
  obtain⟨B,f1,f2,arr,vals,rfl,o1,o2,o3,o4,o5,o6,o7⟩:=hk
  exact⟨B,f1,f2,arr,vals,rfl,o1,o2,o3,o4,okL_agree ⟨fun b hb=>⟨hI b hb,rfl⟩,fun _ _=>rfl⟩ o5,o6,okOuts_floats hI o7⟩
theorem okOuts_clean {sz h0 h I I' args us}:∀ {os f},(os.all fun o=>cleanL o.2)=true→okOuts sz h0 h I args us os f→okOuts sz h0 h I' args us os f
 | [],f,_,hk=>hk
 | (i,cs)::os,f,hc,hk=>by
  simp only[List.all_cons,Bool.and_eq_true] at hc
  obtain⟨B,f1,f2,arr,vals,rfl,o1,o2,o3,o4,o5,o6,o7⟩:=hk
  exact⟨B,f1,f2,arr,vals,rfl,o1,o2,o3,o4,okL_clean hc.1 o5,o6,okOuts_clean hc.2 o7⟩
theorem after_I {sz z rt gh w FS X} (r:HRel sz z rt gh w FS X) {z':Zn} {w':World} {X' used:List Nat} (hw:z'.w0=w) (hF:∀ b,b∈z'.F0→b∈X) (hI0:z'.I0=Ileans (Inow z w (FS++X)) FS used) (_fr:Fr z' w')
  (hI:∀ b,Inow z w (FS++X) b→Inow z w' (FS++X') b) {b:Nat} (hb:Inow z' w' X' b):Inow z w' (FS++X') b∨(used≠[]∧b∈FS):=by
 subst hw
 rcases hb with hb | ⟨h1,h2,h3⟩
 ·rw[hI0] at hb
  rcases hb with hb | hb
  ·exact .inl (hI b hb)
  ·exact .inr hb
 ·refine .inl (.inr ⟨?_,h2,fun hm=>?_⟩)
  ·rcases h1 with h1 | h1
   ·exact r.zone b (by simp[hF b h1])
   ·have:=r.fr.size;exact .inr (by omega)
  ·rcases List.mem_append.1 hm with hm | hm
   ·rcases h1 with h1 | h1
    ·have:=r.uniq b
     have h4:=List.count_pos_iff.2 hm
     have h5:=List.count_pos_iff.2 (hF b h1)
     simp only[List.count_append] at this
     omega
    ·have:=r.lt b (by simp[hm]);omega
   ·exact h3 hm
theorem mkArgs_lent2 {E:Env} {rt0:List (Nat×Root)} {x:Cx}:∀ {ts:List T} {i:Nat} {ms:List Mode} {tys:List TypeId} {us:List Value} {l:Lends},(mkArgs E i ms tys ts).run rt0=some l→All2 (okX x) ts us→
  (∀ d r,lk rt0 d=some r→lk x.rt d=some r)→
  ∀ j d,(j,d)∈l.lent→∃ k ro b,j=i+k∧lk rt0 d=some ro∧ro.real=true∧(x.gh d).blk=some b∧us[k]?=some (.pointer (some ⟨Blk.b b,b.pre.length,none⟩))∧(l.args[k]?).bind (·.root)=some ⟨0,1,true,ro.cells⟩
 | [],i,ms,tys,us,l,h,_,_,j,d,hd=>by
  simp only[mkArgs,Rd.run,Option.some.injEq] at h
  subst h
  simp at hd
 | t::ts,i,ms,tys,us,l,h,hk,hx,j,d,hd=>by
  simp only[mkArgs] at h
  obtain⟨q,h1,h2⟩:=run_bind h
  obtain⟨l',h3,h4⟩:=run_bind h2
  simp only[Rd.run,Option.some.injEq] at h4
  subst h4
  obtain⟨u,us',rfl,k1,k2⟩:=hk
  rcases List.mem_append.1 hd with hd | hd
  ·unfold mkArg at h1
   cases m0:ms.headD .R with
   | R=>
    rw[m0] at h1
    obtain⟨⟨t',ds⟩,g1,g2⟩:=run_bind h1
    simp only[Rd.run,Option.some.injEq] at g2
    subst g2
    simp at hd
   | M=>
    rw[m0] at h1
    dsimp only at h1
    split at h1
    ·obtain⟨r0,g1,g2,g3⟩:=run_root h1
     split at g3
     ·rename_i hreal
      simp only[Rd.run,Option.some.injEq] at g3
      subst g3
      simp only[List.mem_singleton,Prod.mk.injEq] at hd
      obtain⟨rfl,rfl⟩:=hd
      obtain⟨b,hb,hu⟩:=k1.2 r0 (hx _ _ g1) g2
      exact⟨0,r0,b,rfl,g1,hreal,hb,by simp[hu],rfl⟩
     ·simp[Rd.run] at g3
    ·simp[Rd.run] at h1
   | L=>rw[m0] at h1;simp[Rd.run] at h1
   | N=>rw[m0] at h1;simp[Rd.run] at h1
   | B=>rw[m0] at h1;simp[Rd.run] at h1
   | P=>
    rw[m0] at h1
    dsimp only at h1
    split at h1
    ·simp only[Rd.run,Option.some.injEq] at h1
     subst h1
     simp at hd
    ·simp[Rd.run] at h1
   | V=>
    rw[m0] at h1
    dsimp only at h1
    split at h1
    ·obtain⟨⟨⟨e,es⟩,s⟩,g1,g2⟩:=run_bind h1
     simp only[Rd.run,Option.some.injEq] at g2
     subst g2
     simp at hd
    ·simp only[Rd.run,Option.some.injEq] at h1
     subst h1
     simp at hd
    ·obtain⟨⟨ts0,ss0⟩,g1,g2⟩:=run_bind h1
     simp only[Rd.run,Option.some.injEq] at g2
     subst g2
     simp at hd
    ·simp[Rd.run] at h1
  ·obtain⟨k,ro,b,y1,y2⟩:=mkArgs_lent2 h3 k2 hx j d hd
   refine⟨k+1,ro,b,by omega,y2.1,y2.2.1,y2.2.2.1,?_,?_⟩
   ·simpa using y2.2.2.2.1
   ·simpa using y2.2.2.2.2
theorem setCells_srt {tick}:∀ {ss:List CSet} {rt:List (Nat×Root)},Srt rt→Srt (setCells tick rt ss)
 | [],_,h=>h
 | s::ss,rt,h=>by
  simp only[setCells]
  refine setCells_srt ?_
  unfold setCell
  split
  ·exact up_srt h
  ·exact h
theorem stX_True {t:T}:stX (fun _ _=>True) t:=by
 have s0:∀ t,st0 (fun _ _=>True) t:=fun t=>by cases t<;>trivial
 have s1:∀ t,st1 (fun _ _=>True) t:=fun t=>by
  cases t<;>first | trivial | exact fun c _=>s0 c
 cases t<;>first | trivial | exact fun c _=>s0 c | exact fun c _=>s1 c
theorem Calls.mono' {P:Program} {f:FuncId} {args:Array Value} {w:World} {K K':Value→World→Prop} (h:Calls P f args w fun | .returned u,w'=>K u w' | _,_=>False) (hk:∀ u w',K u w'→K' u w'):
  Calls P f args w fun | .returned u,w'=>K' u w' | _,_=>False:=
 Calls.mono h fun e w' he=>by cases e<;>first | exact hk _ _ he | exact he
section call
variable {E:Env} {z:Zn} {n tick:Nat} {fr:List (Nat×T)} {rt:List (Nat×Root)} {gh:Nat→G} {w:World} {FS:List Nat} {a:Act}
variable {call:FuncId→List Arg→Option Res} {me:FuncId} {d:Nat} {ty0:TypeId} {e:Eff} {o:Oper}
theorem call_ok (ht:TiOk E) (h:Here E z n tick fr rt gh w FS a) (hcall:∀ f args r,call f args=some r→Sound E f args r) {f:FuncId} {tys:List TypeId} {ts:List T} {us:List Value} (hnl:lends (E.mode f)=false)
  (he:(callEff0 E call me d tick f tys ts).run rt=some e) (hd:EffOk tick rt d e) (hk:All2 (okX ⟨szOf E,w.heap,Inow z w (FS++[]),rt,gh⟩) ts us) (hs:∀ t,t∈ts→stX (Stm tick rt) t):
  Calls E.P f us.toArray w fun | .returned u,w'=>Done E z tick rt (rtOf tick rt d e) gh w FS e.val u w' | _,_=>False:=by
 unfold callEff0 at he
 obtain⟨l,h1,he1⟩:=run_bind he
 clear he
 split at he1
 ·rename_i hc
  simp only[Bool.and_eq_true,List.all_eq_true,Bool.not_eq_true',List.contains_eq_mem,decide_eq_false_iff_not] at hc
  obtain⟨⟨c1,c2⟩,c3⟩:=hc
  split at he1
  ·rename_i r hr
   split at he1
   ·rename_i hcl
    split at he1
    ·rename_i s hback
     simp only[Rd.run,Option.some.injEq] at he1
     have hsets:e.sets=l.sets++s:=by
      rw[←he1,with_sets.2.2]
      have:(sealRes (E.keep me d) d tick r.ret).sets=[]:=by unfold sealRes;split<;>first | exact rooted_sets | rfl
      rw[this];rfl
     obtain⟨a1,a2,a3⟩:=setsApart_append (by rw[←hsets];exact hd.apart:setsApart (l.sets++s)=true)
     obtain⟨FS1,fV,r1,kp1,pre⟩:=mkArgs_takes (tick:=tick) (D:=[]) ht h.heap (Pres.refl rt) h1 a1 (fun s _=>by simp) hk hs
     have hun:∀ e,e∉l.sets.map (·.d)→lk (setCells tick rt l.sets) e=lk rt e:=fun e he=>setCells_other he
     have hlent:∀ e,e∈l.lent.map (·.2)→lk (setCells tick rt l.sets) e=lk rt e:=fun e he=>hun e (c2 e he)
     obtain⟨FS2,fM,r2,hI2,kp2,lents⟩:=dels_ok r1 c1 (fun e he=>by rw[hlent e he];exact mkArgs_lent h1 e he)
     have hrt2:∀ e,e∉l.lent.map (·.2)→lk (dels (setCells tick rt l.sets) (l.lent.map (·.2))) e=lk (setCells tick rt l.sets) e:=fun e he=>lk_dels_ne he
     obtain⟨f0,g1,g2⟩:=mkArgs_all (E:=E) (rt0:=rt) (gh:=gh) (w:=w) (sz:=szOf E) (I':=Inow z w (FS2++(fM++(fV++[])))) (I'':=Ileans (Inow z w (FS2++(fM++(fV++[])))) FS2 l.used) (rt':=setCells tick rt l.sets)
      (x':=⟨szOf E,w.heap,Inow z w (FS1++(fV++[])),setCells tick rt l.sets,gh⟩) h1
      (okPre_agree ⟨fun b hb=>⟨(hI2 b).1 hb,rfl⟩,fun b _=>rfl⟩ pre) lents (fun b hb=>.inl hb) hlent
      (fun t t' u ty ds _ hx hseal hu=>by
       have hx2:=kp2.x stX_True hx
       obtain⟨n1,n2⟩:=nilOf_ok ht (S:=fun _ _=>True) (ty:=ty) hx2 stX_True
       have hcg:=seal2_congr (rt':=dels (setCells tick rt l.sets) (l.lent.map (·.2))) hseal (fun e he=>by
        obtain⟨y1,y2⟩:=c3 e (hu e he)
        rw[hrt2 e y1,hun e y2])
       exact okV_leans (seal2_ok r2 n1 hcg) (fun hne=>by
        obtain⟨e,he⟩:=List.exists_mem_of_ne_nil ds hne
        exact List.ne_nil_of_mem (hu e he)))
      (fun e ver u hx r' hl hv hsame=>hx.2 r' (by rw[hsame];exact hl) hv)
      (hk.imp fun t u hm hx=>kp1.x (hs t hm) hx)
     have hmem:∀ b,b∈f0→b∈fM++(fV++[]):=fun b hb=>by
      have h1:=List.count_pos_iff.2 hb
      have h2:=g2 b
      rw[←List.count_pos_iff]
      simp only[List.count_append,List.count_nil]
      omega
     have hz':∀ b,Ileans (Inow z w (FS2++(fM++(fV++[])))) FS2 l.used b→b<w.heap.size∧b∉f0:=fun b hb=>by
      rcases hb with hb | hb
      ·exact⟨(r2.imm hb).1,fun hm=>(r2.imm hb).2 (List.mem_append.2 (.inr (hmem b hm)))⟩
      ·refine⟨r2.lt b (List.mem_append.2 (.inl hb.2)),fun hm=>?_⟩
       have h1:=r2.uniq b
       have h2:=List.count_pos_iff.2 hb.2
       have h3:=List.count_pos_iff.2 (hmem b hm)
       simp only[List.count_append] at h1 h3
       omega
     have hsound:=(hcall f l.args r hr).old hnl ⟨w,f0,Ileans (Inow z w (FS2++(fM++(fV++[])))) FS2 l.used,hz',fun g p hg=>⟨.inl (r2.gok g p hg).1,(r2.gok g p hg).2⟩⟩ us
      (fun b=>by
       have h1:=r2.uniq b
       have h2:=g2 b
       simp only[List.count_append,List.count_nil] at h1
       show f0.count b≤1
       omega)
      (fun b hb=>r2.lt b (List.mem_append.2 (.inr (hmem b hb)))) g1
     refine Calls.mono' hsound fun u w' back=>?_
     obtain⟨bfr,⟨f',fo,b1,b2,b3,b4⟩,bcl⟩:=back
     obtain⟨r3,kp3,hI3⟩:=r2.after (X':=f'++fo) rfl hmem bfr b3 b4
     have hI4:=fun b hb=>after_I (X':=f'++fo) (b:=b) r2 rfl hmem rfl bfr hI3 hb
     have hret:okV (szOf E) w'.heap (Inow z w' (FS2++(f'++fo))) r.ret u f'∧okOuts (szOf E) w.heap w'.heap (Inow z w' (FS2++(f'++fo))) l.args us r.outs fo:=by
      rcases Bool.or_eq_true_iff.1 hcl with hx | hx
      ·simp only[Bool.and_eq_true] at hx
       exact⟨okV_clean (bcl hx.1) b1,okOuts_clean hx.2 b2⟩
      ·have hu:l.used=[]:=by simpa using hx
       have hag:∀ b,Inow ⟨w,f0,Ileans (Inow z w (FS2++(fM++(fV++[])))) FS2 l.used,hz',fun g p hg=>⟨.inl (r2.gok g p hg).1,(r2.gok g p hg).2⟩⟩ w' (f'++fo) b→Inow z w' (FS2++(f'++fo)) b:=fun b hb=>by
        rcases hI4 b hb with h | h
        ·exact h
        ·exact absurd hu h.1
       exact⟨okV_agree ⟨fun b hb=>⟨hag b hb,rfl⟩,fun b _=>rfl⟩ b1,okOuts_floats hag b2⟩
     obtain⟨r4,hI5⟩:=r3.perm (X':=fo++(f'++[])) fun x=>by simp only[List.count_append,List.count_nil];omega
     have kp4:Keeps ⟨szOf E,w.heap,Inow z w (FS++[]),rt,gh⟩ ⟨szOf E,w'.heap,Inow z w' (FS2++(fo++(f'++[]))),dels (setCells tick rt l.sets) (l.lent.map (·.2)),gh⟩ (Stm tick rt):=
      (kp1.trans (kp2.trans (kp3.trans (r3.keeps_refl (fun _ _=>True) fun b hb=>(hI5 b).1 hb) fun _ _ h=>h) fun _ _ h=>h) fun _ _ _=>trivial)
     obtain⟨gh',FS3,r5,kp5,hI6⟩:=backs_ok (h0:=w.heap) (tick:=tick) (us:=us) (args:=l.args) (S:=Stm tick rt) (by exact setCells_srt h.heap.srt) c1
      (fun j dd hm=>by
       obtain⟨k,ro,b,rfl,y1,y2,y3,y4,y5⟩:=mkArgs_lent2 h1 hk (fun _ _ h=>h) j dd hm
       have hdm:dd∈l.lent.map (·.2):=List.mem_map.2 ⟨_,hm,rfl⟩
       refine⟨ro,ro,b,by rw[hlent dd hdm];exact y1,y1,rfl,fun hS=>?_,y3,by simpa using y4,y2,fun ra hra=>?_,?_⟩
       ·have hS1:=hS.1
        unfold nxt at hS hS1
        split at hS
        ·rename_i hlt
         rw[if_pos hlt] at hS1
         obtain⟨r7,q6,q7⟩:=hS.2 rfl
         rw[y1] at q6
         simp only[Option.some.injEq] at q6
         subst q6
         omega
        ·rename_i hlt
         rw[if_neg hlt] at hS1
         omega
       ·rw[Nat.zero_add] at hra
        rw[y5] at hra
        simp only[Option.some.injEq] at hra
        rw[←hra]
       ·obtain⟨fx,w1,_⟩:=okRts_get h.heap.roots y1
        have y3:(gh dd).blk=some b:=y3
        unfold okRoot at w1
        rw[y3] at w1
        obtain⟨_,fs',arr,_,v1,_,v3,v4⟩:=w1
        exact⟨arr,(gh dd).vals,v1,v3,okL_length v4⟩)
      r4 hret.2 (fun b hb=>(hI5 b).1 hb) hback kp4
     rw[←setCells_append] at r5 kp5
     have hv:okV (szOf E) w'.heap (Inow z w' (FS3++(f'++[]))) r.ret u f':=okV_agree ⟨fun b hb=>⟨hI6 b ((hI5 b).1 hb),rfl⟩,fun b _=>rfl⟩ hret.1
     have sl:Slot (szOf E) z tick d (setCells tick rt (l.sets++s)) gh' w' (Inow z w' (FS3++(f'++[]))) (sealRes (E.keep me d) d tick r.ret) u:=by
      unfold sealRes
      cases hkp:E.keep me d with
      | true=>
       simp only[if_true]
       exact slot_ok r5 hv (fun hsome r0 h0=>by
        obtain⟨rr,hrr⟩:=Option.isSome_iff_exists.1 hsome
        exact newOk_lt (hd.new rr (by rw[←he1,with_sets.2.1];unfold sealRes;rw[hkp];exact hrr)) h0)
      | false=>
       simp only[Bool.false_eq_true,if_false]
       obtain⟨_,hI7⟩:=drop_floats r5
       have hseal:=okV_seal (I':=Inow z w' (FS3++[])) hI7 (fun b hb=>.inr ⟨r5.zone b (by simp[hb]),r5.lt b (by simp[hb]),fun hm=>by
        have h1:=r5.uniq b
        have h2:=List.count_pos_iff.2 hb
        have h3:=List.count_pos_iff.2 hm
        simp only[List.count_append,List.count_nil] at h1 h3
        omega⟩) hv
       have h0:=okV_0 (x:=⟨szOf E,w'.heap,Inow z w' (FS3++[]),setCells tick rt (l.sets++s),gh'⟩) (S:=Stm tick (setCells tick rt (l.sets++s))) hseal
       exact slot_plain r5 h0.1 h0.2
     obtain⟨gh2,FS4,z1,z2,z3,z4⟩:=sl
     have hroot:e.root=(sealRes (E.keep me d) d tick r.ret).root:=by rw[←he1];rfl
     have hval:e.val=(sealRes (E.keep me d) d tick r.ret).val:=by rw[←he1];rfl
     show Done _ _ _ _ _ _ _ _ _ _ _
     rw[rtOf_eq,hsets,hroot,hval]
     exact⟨gh2,FS4,z1,kp5.trans z2 fun a b h=>Stm_sets a b h,z3,z4⟩
    ·simp[Rd.run] at he1
   ·simp[Rd.run] at he1
  ·simp[Rd.run] at he1
 ·simp[Rd.run] at he1
end call
theorem skL_put {sz h' h}:∀ {cs' cs vs' vs} {c:Nat} {t0 t':T},skL sz h' h cs' cs vs' vs→cs'[c]?=some t0→
  (∀ t u' u,cs[c]?=some t→vs'[c]?=some u'→vs[c]?=some u→(isOwn t'=true→u'=u)∧skV sz h' h t' t u)→skL sz h' h (cs'.set c t') cs vs' vs
 | [],cs,vs',vs,c,t0,t',_,h2,_=>by simp at h2
 | c0::cs',cs,vs',vs,0,t0,t',h1,_,h3=>by
  simp only[skL] at h1
  obtain⟨d,ct,u',ut',u,ut,rfl,rfl,rfl,h4,h5,h6⟩:=h1
  obtain⟨g1,g2⟩:=h3 d u' u rfl rfl rfl
  simp only[List.set_cons_zero,skL]
  exact⟨d,ct,u',ut',u,ut,rfl,rfl,rfl,g1,g2,h6⟩
 | c0::cs',cs,vs',vs,c+1,t0,t',h1,h2,h3=>by
  simp only[skL] at h1
  obtain⟨d,ct,u',ut',u,ut,rfl,rfl,rfl,h4,h5,h6⟩:=h1
  simp only[List.getElem?_cons_succ] at h2 h3
  simp only[List.set_cons_succ,skL]
  exact⟨d,ct,u',ut',u,ut,rfl,rfl,rfl,h4,h5,skL_put h6 h2 h3⟩
theorem skEs_put {sz h' h} {s:Nat}:∀ {es' es l' l} {i:Nat} {c0 c':List T},skEs sz h' h s es' es l' l→es'[i]?=some c0→
  (∀ c,es[i]?=some c→skL sz h' h c' c ((l'.drop (i*s)).take s) ((l.drop (i*s)).take s))→skEs sz h' h s (es'.set i c') es l' l
 | [],es,l',l,i,c0,c',_,h2,_=>by simp at h2
 | e0::es',es,l',l,0,c0,c',h1,h2,h3=>by
  simp only[skEs] at h1
  obtain⟨d,et,rfl,h4,h5⟩:=h1
  have:=h3 d rfl
  simp only[Nat.zero_mul,List.drop_zero] at this
  simp only[List.set_cons_zero,skEs]
  exact⟨d,et,rfl,this,h5⟩
 | e0::es',es,l',l,i+1,c0,c',h1,h2,h3=>by
  simp only[skEs] at h1
  obtain⟨d,et,rfl,h4,h5⟩:=h1
  simp only[List.getElem?_cons_succ] at h2 h3
  have e1:(i+1)*s=s+i*s:=by rw[Nat.add_mul,Nat.one_mul,Nat.add_comm]
  simp only[List.set_cons_succ,skEs]
  refine⟨d,et,rfl,h4,skEs_put h5 h2 fun c hc=>?_⟩
  have:=h3 c hc
  rw[e1,←List.drop_drop,←List.drop_drop] at this
  exact this
theorem sk_graft {sz h' h} {f:List T→Option (List T)}:∀ {p:List (Nat×Nat)} {cs' cs vs' vs ad c2},skL sz h' h cs' cs vs' vs→graft f cs' p=some c2→
  (∀ k' v' a' k v a k2,loc sz h' cs' vs' ad p=some (k',v',a')→loc sz h cs vs ad p=some (k,v,a)→f k'=some k2→skL sz h' h k2 k v' v)→skL sz h' h c2 cs vs' vs
 | [],cs',cs,vs',vs,ad,c2,_,h2,h3=>by
  simp only[graft] at h2
  exact h3 cs' vs' ad cs vs ad c2 rfl rfl h2
 | (c,i)::rest,cs',cs,vs',vs,ad,c2,h1,h2,h3=>by
  simp only[graft] at h2
  cases hc:cs'[c]? with
  | none=>rw[hc] at h2;simp at h2
  | some t'=>
   rw[hc] at h2
   cases t' with
   | own e es'=>
    simp only at h2
    cases hi:es'[i]? with
    | none=>rw[hi] at h2;simp at h2
    | some ci=>
     rw[hi] at h2
     simp only at h2
     cases hg:graft f ci rest with
     | none=>rw[hg] at h2;simp at h2
     | some ci2=>
      rw[hg] at h2
      simp only[Option.some.injEq] at h2
      subst h2
      obtain⟨t,u',u,g1,g2,g3,g4,g5⟩:=skL_get h1 hc
      have hu:=g4 rfl
      subst hu
      refine skL_put h1 hc fun t1 u1 u2 q1 q2 q3=>?_
      rw[g1] at q1;rw[g2] at q2;rw[g3] at q3
      simp only[Option.some.injEq] at q1 q2 q3
      subst q1;subst q2;subst q3
      refine⟨fun _=>rfl,?_⟩
      simp only[skV] at g5 ⊢
      obtain⟨es,rfl,hl,g6⟩:=g5
      refine⟨es,rfl,by simpa using hl,.inr ?_⟩
      rcases g6 with rfl | ⟨b,o,n,cap,arr',el',fz',arr,el,fz,rfl,m1,m2,m3⟩
      ·simp at hi
      ·refine⟨b,o,n,cap,arr',el',fz',arr,el,fz,rfl,m1,m2,skEs_put m3 hi fun c0 hc0=>?_⟩
       obtain⟨c1,r1,r2⟩:=skEs_get m3 hi
       rw[hc0] at r1
       simp only[Option.some.injEq] at r1
       subst r1
       rw[List.drop_drop,List.drop_drop] at r2 ⊢
       refine sk_graft (ad:=some (b,o+i*sz e)) r2 hg fun k' v' a' k v a k2 w1 w2 w3=>h3 k' v' a' k v a k2 ?_ ?_ w3
       ·simp only[loc,hc,g2,hi,m1];exact w1
       ·simp only[loc,g1,g3,hc0,m2];exact w2
   | _=>simp at h2
def putCells:Nat→List T→List T→List T
 | _,_,[]=>[]
 | k+1,r,c::cs=>c::putCells k r cs
 | 0,[],cs=>cs
 | 0,t::r,c::cs=>(if isOwn t then t else c)::putCells 0 r cs
def LendT (sz:TypeId→Nat) (h:Array Obj) (I:Nat→Prop) (cs:List T) (vs:List Value) (f:List Nat) (row:List T) (us:List Value) (new:List T→Option (List T)):Prop:=
 ∃ fm fr,Both f fm fr∧okL sz h I row us fm∧∀ h' I' row' fm' cs',(∀ b,I b→I' b∧h'[b]?=h[b]?)→(∀ b,b∈fr→h'[b]?=h[b]?)→new row'=some cs'→
  okL sz h' I' row' us fm'→skL sz h' h row' row us us→∃ f1,okL sz h' I' cs' vs f1∧Both f1 fm' fr∧skL sz h' h cs' cs vs vs
def LV:List T→List Value→List Value→Prop
 | [],us,_=>us=[]
 | t::ts,us,vs=>∃ u us',us=u::us'∧(∀ x,t=.v x→u=x)∧((∀ x,t≠.v x)→∃ vs',vs=u::vs')∧LV ts us' (vs.drop 1)
theorem lendT_0 {sz h I} {d ver:Nat}:∀ {views cs row us vs f k},okL sz h I cs vs f→lendRow d ver k views cs=some row→LV views us vs→
  LendT sz h I cs vs f row us (fun row'=>if row'.map isOwn=row.map isOwn∧row'.all lentCell=true then some (putCells 0 row' cs) else none)
 | [],cs,row,us,vs,f,k,hk,hr,hv=>by
  simp only[lendRow,Option.some.injEq] at hr
  subst hr
  simp only[LV] at hv
  subst hv
  refine⟨[],f,fun x=>by simp,⟨rfl,rfl⟩,fun h' I' row' fm' cs' hI hf hn ho hs=>?_⟩
  dsimp only at hn
  split at hn
  ·rename_i hm
   simp only[List.map_nil,List.map_eq_nil_iff] at hm
   obtain⟨rfl,_⟩:=hm
   simp only[Option.some.injEq] at hn
   have e:putCells 0 [] cs=cs:=by cases cs<;>rfl
   rw[e] at hn
   subst hn
   simp only[okL] at ho
   obtain⟨_,rfl⟩:=ho
   exact⟨f,okL_agree ⟨hI,hf⟩ hk,fun x=>by simp,skL_refl hf hk⟩
  ·simp at hn
 | t::ts,[],row,us,vs,f,k,hk,hr,hv=>by simp[lendRow] at hr
 | t::ts,c::cs,row,us,vs,f,k,hk,hr,hv=>by
  simp only[lendRow] at hr
  split at hr
  ·rename_i x hx
   split at hr
   ·rename_i xs hxs
    simp only[Option.some.injEq] at hr
    subst hr
    obtain⟨u,us',rfl,v1,v2,v3⟩:=hv
    simp only[okL] at hk
    obtain⟨v,vs',f1,f2,rfl,rfl,k1,k2⟩:=hk
    obtain⟨fm,fr,q1,q2,q3⟩:=lendT_0 k2 hxs v3
    by_cases hown:isOwn x=true
    ·
     have hcx:x=c∧u=v:=by
      unfold lendCell at hx
      split at hx
      ·split at hx
       ·simp only[Option.some.injEq] at hx
        obtain⟨vs2,e⟩:=v2 (fun y hy=>by simp at hy)
        simp only[List.cons.injEq] at e
        exact⟨hx.symm,e.1.symm⟩
       ·simp at hx
      ·split at hx
       ·simp only[Option.some.injEq] at hx
        subst hx
        simp[isOwn] at hown
       ·simp at hx
      ·simp at hx
     obtain⟨rfl,rfl⟩:=hcx
     refine⟨f1++fm,fr,fun y=>by have:=q1 y;simp only[List.count_append] at *;omega,⟨u,us',f1,fm,rfl,rfl,k1,q2⟩,fun h' I' row' fm' cs' hI hf hn ho hs=>?_⟩
     dsimp only at hn
     split at hn
     ·rename_i hm
      cases row' with
      | nil=>simp at hm
      | cons t' r'=>
       simp only[List.map_cons,List.cons.injEq,List.all_cons,Bool.and_eq_true] at hm
       obtain⟨hm,hm1,hm2⟩:=hm
       simp only[Option.some.injEq,putCells,hm.1,hown,if_true] at hn
       subst hn
       simp only[okL] at ho
       obtain⟨u0,us0,g1,g2,e1,rfl,o1,o2⟩:=ho
       simp only[List.cons.injEq] at e1
       obtain⟨rfl,rfl⟩:=e1
       simp only[skL] at hs
       obtain⟨y,yt,u1,ut1,u2,ut2,e2,e3,e4,s1,s2,s3⟩:=hs
       simp only[List.cons.injEq] at e2 e3 e4
       obtain⟨rfl,rfl⟩:=e2
       obtain⟨rfl,rfl⟩:=e3
       obtain⟨rfl,rfl⟩:=e4
       obtain⟨f1',p1,p2,p3⟩:=q3 h' I' r' g2 _ hI hf (if_pos ⟨hm.2,hm2⟩) o2 s3
       refine⟨g1++f1',⟨u,vs',g1,f1',rfl,rfl,o1,p1⟩,fun y=>by have:=p2 y;simp only[List.count_append] at *;omega,?_⟩
       simp only[skL]
       exact⟨x,cs,u,vs',u,vs',rfl,rfl,rfl,fun _=>rfl,s2,p3⟩
     ·simp at hn
    ·have hxv:∃ y,x=.v y∧t=.v y:=by
      unfold lendCell at hx
      split at hx
      ·split at hx
       ·simp only[Option.some.injEq] at hx
        subst hx
        simp[isOwn] at hown
       ·simp at hx
      ·split at hx
       ·simp only[Option.some.injEq] at hx
        exact⟨_,hx.symm,rfl⟩
       ·simp at hx
      ·simp at hx
     obtain⟨y,rfl,rfl⟩:=hxv
     have hu:=v1 y rfl
     subst hu
     refine⟨fm,f1++fr,fun y=>by have:=q1 y;simp only[List.count_append] at *;omega,⟨u,us',[],fm,rfl,rfl,by simp only[okV];trivial,q2⟩,fun h' I' row' fm' cs' hI hf hn ho hs=>?_⟩
     dsimp only at hn
     split at hn
     ·rename_i hm
      cases row' with
      | nil=>simp at hm
      | cons t' r'=>
       simp only[List.map_cons,List.cons.injEq,List.all_cons,Bool.and_eq_true] at hm
       obtain⟨hm,hm1,hm2⟩:=hm
       have hno:isOwn t'=false:=by rw[hm.1];rfl
       simp only[Option.some.injEq,putCells,hno,Bool.false_eq_true,if_false] at hn
       subst hn
       simp only[okL] at ho
       obtain⟨u0,us0,g1,g2,e1,rfl,o1,o2⟩:=ho
       simp only[List.cons.injEq] at e1
       obtain⟨rfl,rfl⟩:=e1
       simp only[skL] at hs
       obtain⟨y,yt,u1,ut1,u2,ut2,e2,e3,e4,s1,s2,s3⟩:=hs
       simp only[List.cons.injEq] at e2 e3 e4
       obtain⟨rfl,rfl⟩:=e2
       obtain⟨rfl,rfl⟩:=e3
       obtain⟨rfl,rfl⟩:=e4
       obtain⟨f1',p1,p2,p3⟩:=q3 h' I' r' g2 _ hI (fun b hb=>hf b (by simp[hb])) (if_pos ⟨hm.2,hm2⟩) o2 s3
       have hg:g1=[]:=by cases t'<;>simp[lentCell] at hm1<;>first | (simp[isOwn] at hno;done) | (simp only[okV] at o1;exact o1.2)
       subst hg
       refine⟨f1++f1',⟨v,vs',f1,f1',rfl,rfl,okV_agree ⟨hI,fun b hb=>hf b (by simp[hb])⟩ k1,p1⟩,fun y=>by have:=p2 y;simp only[List.count_append,List.nil_append] at *;omega,?_⟩
       simp only[skL]
       exact⟨c,cs,v,vs',v,vs',rfl,rfl,rfl,fun _=>rfl,skV_refl (fun b hb=>hf b (by simp[hb])) k1,p3⟩
     ·simp at hn
   ·simp at hr
  ·simp at hr
theorem lendT_row {sz h I} {d ver:Nat} {views:List T} {row us}:∀ {k j cs vs f},okL sz h I cs vs f→lendRow d ver j views (cs.drop k)=some row→LV views us (vs.drop k)→
  LendT sz h I cs vs f row us (fun row'=>if row'.map isOwn=row.map isOwn∧row'.all lentCell=true then some (putCells k row' cs) else none)
 | 0,j,cs,vs,f,hk,hr,hv=>lendT_0 hk hr hv
 | k+1,j,[],vs,f,hk,hr,hv=>by
  have e:vs=[]:=by simp only[okL] at hk;exact hk.1
  subst e
  obtain⟨fm,fr,q1,q2,q3⟩:=lendT_0 hk (by simpa using hr) (by simpa using hv)
  refine⟨fm,fr,q1,q2,fun h' I' row' fm' cs' hI hf hn ho hs=>q3 h' I' row' fm' cs' hI hf ?_ ho hs⟩
  dsimp only at hn ⊢
  exact hn
 | k+1,j,c::cs,vs,f,hk,hr,hv=>by
  simp only[okL] at hk
  obtain⟨v,vs',f1,f2,rfl,rfl,k1,k2⟩:=hk
  obtain⟨fm,fr,q1,q2,q3⟩:=lendT_row (k:=k) k2 (by simpa using hr) (by simpa using hv)
  refine⟨fm,f1++fr,fun y=>by have:=q1 y;simp only[List.count_append] at *;omega,q2,fun h' I' row' fm' cs' hI hf hn ho hs=>?_⟩
  dsimp only at hn
  split at hn
  ·rename_i hm
   simp only[Option.some.injEq,putCells] at hn
   subst hn
   obtain⟨f1',p1,p2,p3⟩:=q3 h' I' row' fm' _ hI (fun b hb=>hf b (by simp[hb])) (if_pos hm) ho hs
   refine⟨f1++f1',⟨v,vs',f1,f1',rfl,rfl,okV_agree ⟨hI,fun b hb=>hf b (by simp[hb])⟩ k1,p1⟩,fun y=>by have:=p2 y;simp only[List.count_append] at *;omega,?_⟩
   simp only[skL]
   exact⟨c,cs,v,vs',v,vs',rfl,rfl,rfl,fun _=>rfl,skV_refl (fun b hb=>hf b (by simp[hb])) k1,p3⟩
  ·simp at hn
theorem graft_graft {f g g2:List T→Option (List T)} (hfg:∀ k k1,f k=some k1→g k1=g2 k):∀ {p:List (Nat×Nat)} {cs c1},graft f cs p=some c1→graft g c1 p=graft g2 cs p
 | [],cs,c1,h=>by simp only[graft] at h ⊢;exact hfg _ _ h
 | (c,i)::rest,cs,c1,h=>by
  simp only[graft] at h
  split at h
  ·rename_i e es hc
   split at h
   ·rename_i cs' hi
    split at h
    ·rename_i cs'' hg
     simp only[Option.some.injEq] at h
     subst h
     have hlt:c<cs.length:=(List.getElem?_eq_some_iff.1 hc).1
     have hli:i<es.length:=(List.getElem?_eq_some_iff.1 hi).1
     simp only[graft,List.getElem?_set_self hlt,hc,List.getElem?_set_self hli,hi,graft_graft hfg hg,List.set_set]
    ·simp at h
   ·simp at h
  ·simp at h
theorem descend_graft {f:List T→Option (List T)}:∀ {p:List (Nat×Nat)} {cs c1 k},graft f cs p=some c1→descend cs p=some k→∃ k1,f k=some k1∧descend c1 p=some k1
 | [],cs,c1,k,h,hd=>by
  simp only[graft,descend,Option.some.injEq] at h hd ⊢
  subst hd
  exact⟨c1,h,rfl⟩
 | (c,i)::rest,cs,c1,k,h,hd=>by
  simp only[graft] at h
  split at h
  ·rename_i e es hc
   split at h
   ·rename_i cs' hi
    split at h
    ·rename_i cs'' hg
     simp only[Option.some.injEq] at h
     subst h
     have hlt:c<cs.length:=(List.getElem?_eq_some_iff.1 hc).1
     have hli:i<es.length:=(List.getElem?_eq_some_iff.1 hi).1
     simp only[descend,hc,hi] at hd
     obtain⟨k1,h1,h2⟩:=descend_graft hg hd
     exact⟨k1,h1,by simp only[descend,List.getElem?_set_self hlt,List.getElem?_set_self hli];exact h2⟩
    ·simp at h
   ·simp at h
  ·simp at h
def newDeep (cs:List T) (c0 i:Nat) (rest:List (Nat×Nat)) (t0:T) (c:Nat) (row':List T):Option (List T):=
 match row' with
 | [t']=>match graft (fun x=>some (x.set c t')) [t0] ((0,i)::rest) with
  | some [t1]=>some (cs.set c0 t1)
  | _=>none
 | _=>none
theorem lendT_deep {sz h I} {cs vs f c0 i rest t0 cp c e es u} (hL:okL sz h I cs vs f) (huf:Uniq f) (hc:cs[c0]?=some t0) (hd:descend [t0] ((0,i)::rest)=some cp) (hcp:cp[c]?=some (.own e es))
  (hu:∀ vsp ad,loc sz h cs vs none ((c0,i)::rest)=some (cp,vsp,ad)→vsp[c]?=some u):
  LendT sz h I cs vs f [.own e es] [u] (newDeep cs c0 i rest t0 c):=by
 obtain⟨u0,fo,fr0,v0,q0,k0,rb0⟩:=okL_focus hL hc
 have hufo:=q0.uniq_l huf
 obtain⟨b,o,arr,el,fz,fp,R,l1,l2,l3,l4,l5,q1,k1,rb1⟩:=path_ok (ad:=none) (by simp) (okL_one.2 k0) hufo hd
 obtain⟨u',fm,frp,v2,q2,k2,rb2⟩:=okL_focus k1 hcp
 have hloc:loc sz h cs vs none ((c0,i)::rest)=some (cp,(arr.toList.drop o).take cp.length,some (b,o)):=by rw[loc_head (ad':=none) hc v0];exact l1
 have hu':=hu _ _ hloc
 rw[v2] at hu'
 simp only[Option.some.injEq] at hu'
 subst hu'
 have hw:((arr.toList.drop o).take cp.length).length=cp.length:=okL_length k1
 have hwin:∀ x:Nat,arr.toList=arr.toList.take o++(arr.toList.drop o).take cp.length++arr.toList.drop (o+cp.length):=fun _=>by
  rw[List.append_assoc,←List.drop_drop,List.take_append_drop,List.take_append_drop]
 obtain⟨fd,d1,d2⟩:=rb2 h I .dead u' [] ⟨fun x hx=>⟨hx,rfl⟩,fun x _=>rfl⟩ (by simp only[okV])
 rw[set_self v2] at d1
 obtain⟨csd,fsd,e1,e2,e3⟩:=rb1 h I (cp.set c .dead) _ fd arr (fun x=>some (x.set c .dead)) rfl (fun x hx=>⟨hx,rfl⟩) (fun x _ _=>rfl) l2 rfl (hwin 0) (by simp) d1
 have hcsd:∃ td,csd=[td]:=by
  have:=okL_length e2
  match csd,this with
  | [td],_=>exact⟨td,rfl⟩
 obtain⟨td,rfl⟩:=hcsd
 have sk0:skL sz h h [td] [t0] [u0] [u0]:=path_sk (g:=fun x=>some (x.set c .dead)) (c1:=cp.set c .dead) (ad:=none) (by simp) (okL_one.2 k0) hufo hd l1 l2 l4 (fun x _ _=>rfl) l2 (hwin 0) hw rfl (by simp)
  (by
   have:=skL_set (h':=h) (t':=.dead) (u':=u') k1 hcp v2 fun _ _ _ _=>⟨fun b _=>rfl,fun h=>by simp[isOwn] at h,by simp only[skV]⟩
   rw[set_self v2] at this
   exact this) e1
 refine⟨fm,frp++(R++fr0),fun x=>by have:=q0 x;have:=q1 x;have:=q2 x;simp only[List.count_append];omega,okL_one.2 k2,fun h' I' row' fm' cs' hI hf hn ho hs=>?_⟩
 unfold newDeep at hn
 split at hn
 ·rename_i t'
  have ho':=okL_one.1 ho
  obtain⟨f2,p1,p2⟩:=rb2 h' I' t' u' fm' ⟨hI,fun x hx=>hf x (by simp[hx])⟩ ho'
  rw[set_self v2] at p1
  have hb:h'[b]?=some (.cells arr el fz):=by rw[hf b (by simp[l5])];exact l2
  obtain⟨cs2,fs2,g1,g2,g3⟩:=rb1 h' I' (cp.set c t') _ f2 arr (fun x=>some (x.set c t')) rfl hI (fun x hx _=>hf x (by simp[hx])) hb rfl (hwin 0) (by simp) p1
  have hcs2:∃ t1,cs2=[t1]:=by
   have:=okL_length g2
   match cs2,this with
   | [t1],_=>exact⟨t1,rfl⟩
  obtain⟨t1,rfl⟩:=hcs2
  rw[g1] at hn
  simp only[Option.some.injEq] at hn
  subst hn
  obtain⟨f3,r1,r2⟩:=rb0 h' I' t1 u0 fs2 ⟨hI,fun x hx=>hf x (by simp[hx])⟩ (okL_one.1 g2)
  rw[set_self v0] at r1
  refine⟨f3,r1,fun x=>by have:=r2 x;have:=g3 x;have:=p2 x;simp only[List.count_append];omega,?_⟩
  have hfsd:∀ x,x∈fsd→h'[x]?=h[x]?:=fun x hx=>by
   rcases (e3.mem x).1 hx with hx | hx
   ·rcases (d2.mem x).1 hx with hx | hx
    ·simp at hx
    ·exact hf x (by simp[hx])
   ·exact hf x (by simp[hx])
  have sk1:skL sz h' h [td] [t0] [u0] [u0]:=skL_trans (skL_refl hfsd e2) sk0
  have hudd:Uniq fsd:=fun x=>by
   have h1:=huf x
   have h2:=q0 x;have h3:=q1 x;have h4:=q2 x;have h5:=d2 x;have h6:=e3 x
   simp only[List.count_nil] at h5
   omega
  obtain⟨kd,hkd,hdd⟩:=descend_graft e1 hd
  simp only[Option.some.injEq] at hkd
  subst hkd
  have sk2:skL sz h' h [t1] [t0] [u0] [u0]:=by
   have hgg:graft (fun x=>some (x.set c t')) [td] ((0,i)::rest)=some [t1]:=by
    rw[graft_graft (g2:=fun x=>some (x.set c t')) (fun k k1 hk=>by simp only[Option.some.injEq] at hk;subst hk;simp) e1]
    exact g1
   refine sk_graft (ad:=none) sk1 hgg fun k' v' a' k v a k2' w1 w2 w3=>?_
   rw[l1] at w2
   simp only[Option.some.injEq,Prod.mk.injEq] at w2
   obtain⟨rfl,rfl,_⟩:=w2
   simp only[Option.some.injEq] at w3
   subst w3
   obtain⟨b',o',arr',el',fz',fp',R',m1,m2,_,_,_,_,_,_⟩:=path_ok (ad:=none) (by simp) (okL_agree (h':=h') (I':=I') ⟨hI,hfsd⟩ e2) hudd hdd
   obtain⟨kk,vv,n1,n2⟩:=sk_loc sk1 w1
   rw[l1] at n1
   simp only[Option.some.injEq,Prod.mk.injEq] at n1
   obtain⟨rfl,rfl,rfl⟩:=n1
   rw[m1] at w1
   simp only[Option.some.injEq,Prod.mk.injEq] at w1
   obtain⟨rfl,rfl,e4,rfl⟩:=w1
   subst e4
   rw[hb] at m2
   simp only[Option.some.injEq,Obj.cells.injEq] at m2
   obtain⟨rfl,rfl,rfl⟩:=m2
   have hlt:c<cp.length:=(List.getElem?_eq_some_iff.1 hcp).1
   refine skL_put (t0:=.dead) n2 (by simp[hlt]) fun t ua ub z1 z2 z3=>?_
   rw[hcp] at z1
   rw[v2] at z3
   have hlen2:(cp.set c T.dead).length=cp.length:=List.length_set
   rw[hlen2,v2] at z2
   simp only[Option.some.injEq] at z1 z2 z3
   subst z1;subst z2;subst z3
   refine⟨fun _=>rfl,?_⟩
   simp only[skL] at hs
   obtain⟨_,_,_,_,_,_,y1,y2,y3,_,y5,_⟩:=hs
   simp only[List.cons.injEq] at y1 y2 y3
   obtain⟨rfl,_⟩:=y1
   obtain⟨rfl,_⟩:=y3
   exact y5
  obtain⟨fX,x1,x2⟩:=rb0 h I .dead u0 [] ⟨fun x hx=>⟨hx,rfl⟩,fun x _=>rfl⟩ (by simp only[okV])
  rw[set_self v0] at x1
  have sk3:skL sz h h (cs.set c0 .dead) cs vs vs:=by
   have:=skL_set (h':=h) (t':=.dead) (u':=u0) hL hc v0 fun _ _ _ _=>⟨fun b _=>rfl,fun h=>by simp[isOwn] at h,by simp only[skV]⟩
   rw[set_self v0] at this
   exact this
  have sk4:skL sz h' h (cs.set c0 .dead) cs vs vs:=skL_trans (skL_refl (fun x hx=>by
   rcases (x2.mem x).1 hx with hx | hx
   ·simp at hx
   ·exact hf x (by simp[hx])) x1) sk3
  have hlt0:c0<cs.length:=(List.getElem?_eq_some_iff.1 hc).1
  have:=skL_put (c:=c0) (t0:=.dead) (t':=t1) sk4 (by simp[hlt0]) fun t ua ub z1 z2 z3=>?_
  ·rw[List.set_set] at this;exact this
  ·rw[hc] at z1
   rw[v0] at z2 z3
   simp only[Option.some.injEq] at z1 z2 z3
   subst z1;subst z2;subst z3
   simp only[skL] at sk2
   obtain⟨_,_,_,_,_,_,y1,y2,y3,_,y5,_⟩:=sk2
   simp only[List.cons.injEq] at y1 y2 y3
   obtain⟨rfl,_⟩:=y1
   obtain⟨rfl,_⟩:=y3
   exact⟨fun _=>rfl,y5⟩
 ·simp at hn
theorem HRel.back2 {sz z rt gh w FS X f d} {r1:Root} {x0:Cx} {S:Nat→Nat→Prop} (r:HRel sz z rt gh w FS (f++X)) (hr:okRoot sz w.heap (Inow z w (FS++(f++X))) (gh d) r1 f)
  (kp:Keeps x0 ⟨sz,w.heap,Inow z w (FS++(f++X)),rt,gh⟩ S)
  (hb:∃ ro,lk x0.rt d=some ro∧ro.ver=r1.ver∧ro.hver=r1.hver∧(gh d).blk=(x0.gh d).blk∧skL x0.sz w.heap x0.h r1.cells ro.cells (gh d).vals (x0.gh d).vals):
  ∃ FS',HRel sz z (up rt d r1) gh w FS' X∧Keeps x0 ⟨sz,w.heap,Inow z w (FS'++X),up rt d r1,gh⟩ S:=by
 obtain⟨fo,rr,q1,_,_,_,q4⟩:=okRts_up (d:=d) r.srt r.roots
 obtain⟨FS',p1,p2⟩:=q4 w.heap _ (gh d) r1 f ⟨fun b hb=>⟨hb,rfl⟩,fun b _=>rfl⟩ hr
 rw[gset_self] at p1
 have hm:∀ b,b∈FS'++X→b∈FS++(f++X):=fun b hb=>by
  have h0:=List.count_pos_iff.2 hb
  have h1:=q1 b
  have h2:=p2 b
  rw[←List.count_pos_iff]
  simp only[List.count_append] at *
  omega
 have hI:∀ b,Inow z w (FS++(f++X)) b→Inow z w (FS'++X) b:=fun b hb=>r.imm_grow (Nat.le_refl _) (fun b hb=>.inl (hm b hb)) hb
 obtain⟨ro,b1,b2,b3,b4,b5⟩:=hb
 refine⟨FS',⟨up_srt r.srt,okRts_agree ⟨fun b hb=>⟨hI b hb,rfl⟩,fun b _=>rfl⟩ p1,fun x=>?_,fun b hb=>r.lt b (hm b hb),fun b hb=>r.zone b (hm b hb),r.fr⟩,kp.sz,fun b hb=>⟨hI b (kp.old b hb).1,(kp.old b hb).2⟩,?_,?_⟩
 ·have h1:=q1 x
  have h2:=p2 x
  have h3:=r.uniq x
  simp only[List.count_append] at *
  omega
 ·intro d' s r' hs h1 h2
  by_cases he:d'=d
  ·subst he
   simp only[lk_up_self,Option.some.injEq] at h1
   subst h1;subst h2
   exact⟨ro,b1,b3,b4,b5⟩
  ·simp only[lk_up_ne _ _ _ _ he] at h1
   exact kp.hdr d' s r' hs h1 h2
 ·intro d' s r' hs h1 h2
  by_cases he:d'=d
  ·subst he
   simp only[lk_up_self,Option.some.injEq] at h1
   subst h1;subst h2
   exact⟨ro,b1,b2,b4⟩
  ·simp only[lk_up_ne _ _ _ _ he] at h1
   exact kp.top d' s r' hs h1 h2
section lend
variable {P:Program} {sz:TypeId→Nat} {z:Zn} {rt:List (Nat×Root)} {gh:Nat→G} {w:World} {FS:List Nat}
theorem lend_root {d:Nat} {ro:Root} {row row' cells':List T} {us uargs:List Value} {f:FuncId} {x:Value} {new:List T→Option (List T)} {S:Nat→Nat→Prop} (r:HRel sz z rt gh w FS []) (hl:lk rt d=some ro)
  (HT:∀ f0 I,okL sz w.heap I ro.cells (gh d).vals f0→Uniq f0→LendT sz w.heap I ro.cells (gh d).vals f0 row us new)
  (hcall:∀ z':Zn,z'.w0=w→Uniq z'.F0→(∀ b,b∈z'.F0→b<w.heap.size)→okL sz w.heap z'.I0 row us z'.F0→Calls P f uargs.toArray w fun
   | .returned u',w'=>u'=x∧BackL sz z' us row row' w'
   | _,_=>False)
  (hnew:new row'=some cells'):
  Calls P f uargs.toArray w fun
   | .returned u',w'=>u'=x∧∃ FS',HRel sz z (up rt d { ro with cells:=cells' }) gh w' FS' []∧Keeps ⟨sz,w.heap,Inow z w (FS++[]),rt,gh⟩ ⟨sz,w'.heap,Inow z w' (FS'++[]),up rt d { ro with cells:=cells' },gh⟩ S
   | _,_=>False:=by
 obtain⟨fd,rr,k1,k2,k3,k4⟩:=r.del hl
 have hufd:Uniq fd:=fun y=>by have:=k2.uniq y;simp only[List.count_append,List.count_nil] at this;omega
 have hsplit:∃ f0 pre,fd=pre++f0∧okL sz w.heap (Inow z w (rr++(fd++[]))) ro.cells (gh d).vals f0∧
   ∀ w':World,∀ I' f1 cs,(∀ b,b∈pre→w'.heap[b]?=w.heap[b]?)→cs.length=ro.cells.length→okL sz w'.heap I' cs (gh d).vals f1→okRoot sz w'.heap I' (gh d) { ro with cells:=cs } (pre++f1):=by
  unfold okRoot at k1 ⊢
  split at k1
  ·exact⟨fd,[],rfl,k1.2,fun w' I' f1 cs _ _ h=>⟨k1.1,h⟩⟩
  ·rename_i b hb
   obtain⟨hreal,fs',arr,rfl,e2,e3,e4,hL⟩:=k1
   exact⟨fs',[b.b],rfl,hL,fun w' I' f1 cs hp _ h=>⟨hreal,f1,arr,rfl,by rw[hp b.b (by simp)];exact e2,e3,e4,h⟩⟩
 obtain⟨f0,pre,rfl,hL,hroot⟩:=hsplit
 have huf0:Uniq f0:=fun y=>by have:=hufd y;simp only[List.count_append] at this;omega
 obtain⟨fm,fr,q1,q2,q3⟩:=HT f0 _ hL huf0
 have hfm:∀ b,b∈fm→b∈f0:=fun b hb=>(q1.mem b).2 (.inl hb)
 have hfr:∀ b,b∈fr→b∈f0:=fun b hb=>(q1.mem b).2 (.inr hb)
 have hz':∀ b,Inow z w (rr++((pre++f0)++[])) b→b<w.heap.size∧b∉fm:=fun b hb=>⟨(k2.imm hb).1,fun hm=>(k2.imm hb).2 (by simp[hfm b hm])⟩
 refine Calls.mono' (hcall ⟨w,fm,_,hz',k2.gok⟩ rfl (q1.uniq_l huf0) (fun b hb=>k2.lt b (by simp[hfm b hb])) q2) fun u' w' back=>?_
 obtain⟨rfl,bfr,⟨fm',o1,o2,o3⟩,osk⟩:=back
 refine⟨rfl,?_⟩
 have hz2:∀ b,Inow z w (rr++((pre++f0)++[])) b→b<w.heap.size∧b∉pre++f0:=fun b hb=>⟨(k2.imm hb).1,fun hm=>(k2.imm hb).2 (by simp only[List.mem_append] at hm ⊢;grind)⟩
 have bfr2:Fr ⟨w,pre++f0,_,hz2,k2.gok⟩ w':=⟨bfr.os,bfr.output,bfr.tape,bfr.size,fun b hb hn=>bfr.block b hb fun hm=>hn (by simp[hfm b hm])⟩
 have hfmlt:∀ b,b∈pre++f0→b<w.heap.size:=fun b hb=>k2.lt b (by simp only[List.mem_append] at hb ⊢;grind)
 have hu3:Uniq (pre++(fr++fm')):=fun y=>by
  have h1:=hufd y
  have h2:=q1 y
  have h3:=o2 y
  by_cases hy:y∈fm'
  ·rcases (o3 y hy).2 with h4 | h4
   ·have h5:=List.count_pos_iff.2 h4
    simp only[List.count_append] at *
    change 0<fm.count y at h5
    omega
   ·have h5:(pre++f0).count y=0:=List.count_eq_zero.2 fun hm=>by have:=hfmlt y hm;change w.heap.size≤y at h4;omega
    simp only[List.count_append] at *
    omega
  ·have h5:fm'.count y=0:=List.count_eq_zero.2 hy
   simp only[List.count_append] at *
   omega
 obtain⟨r3,kp3,hI3⟩:=k2.after (z':=⟨w,pre++f0,_,hz2,k2.gok⟩) (w':=w') (X':=pre++(fr++fm')) rfl (fun b hb=>by simpa using hb) bfr2 hu3 (fun b hb=>by
  simp only[List.mem_append] at hb
  rcases hb with hb | hb | hb
  ·have:=hfmlt b (by simp[hb]);have h5:w.heap.size≤w'.heap.size:=bfr.size;exact⟨by omega,.inl (by simp[hb])⟩
  ·have:=hfmlt b (by simp[hfr b hb]);have h5:w.heap.size≤w'.heap.size:=bfr.size;exact⟨by omega,.inl (by simp[hfr b hb])⟩
  ·obtain⟨h4,h5⟩:=o3 b hb
   exact⟨h4,h5.imp (fun h=>by simp[hfm b h]) id⟩)
 have hfmfr:∀ b,b∈fr→b∉fm:=fun b h1 h2=>q1.apart huf0 h2 h1
 have hok:okL sz w'.heap (Inow z w' (rr++(pre++(fr++fm')))) row' us fm':=okL_agree ⟨fun b hb=>⟨by
   rcases hb with hb | ⟨h1,h2,h3⟩
   ·exact hI3 b hb
   ·refine .inr ⟨?_,h2,fun hm=>?_⟩
    ·rcases h1 with h1 | h1
     ·exact k2.zone b (by simp[hfm b h1])
     ·have:=r.fr.size;change w.heap.size≤b at h1;exact .inr (by omega)
    ·simp only[List.mem_append] at hm
     rcases h1 with h1 | h1
     ·have h4:=k2.uniq b
      have h5:=hufd b
      have h6:=q1 b
      have h7:=List.count_pos_iff.2 h1
      change 0<fm.count b at h7
      simp only[List.count_append,List.count_nil] at h4 h5 h6
      rcases hm with hm | hm | hm | hm
      ·have:=List.count_pos_iff.2 hm;omega
      ·have:=List.count_pos_iff.2 hm;omega
      ·have:=List.count_pos_iff.2 hm;omega
      ·exact h3 hm
     ·change w.heap.size≤b at h1
      rcases hm with hm | hm | hm | hm
      ·have:=k2.lt b (by simp[hm]);omega
      ·have:=hfmlt b (by simp[hm]);omega
      ·have:=hfmlt b (by simp[hfr b hm]);omega
      ·exact h3 hm,rfl⟩,fun b _=>rfl⟩ o1
 obtain⟨f1,p1,p2,p3⟩:=q3 w'.heap (Inow z w' (rr++(pre++(fr++fm')))) row' fm' cells' (fun b hb=>⟨hI3 b hb,(kp3.old b hb).2⟩)
  (fun b hb=>bfr.block b (hfmlt b (by simp[hfr b hb])) (hfmfr b hb)) hnew hok osk
 have hcl:cells'.length=ro.cells.length:=by rw[←okL_length p1,←okL_length hL]
 obtain⟨r4,hI4⟩:=r3.perm (X':=(pre++f1)++[]) fun y=>by have:=p2 y;simp only[List.count_append,List.count_nil];omega
 have hro:=hroot w' (Inow z w' (rr++((pre++f1)++[]))) f1 cells' (fun b hb=>bfr.block b (hfmlt b (by simp[hb])) fun hm=>by
   have h5:=hufd b
   have h6:=List.count_pos_iff.2 hb
   have h7:=List.count_pos_iff.2 (hfm b hm)
   simp only[List.count_append] at h5
   omega) hcl (okL_agree ⟨fun b hb=>⟨(hI4 b).1 hb,rfl⟩,fun b _=>rfl⟩ p1)
 have kp:Keeps ⟨sz,w.heap,Inow z w (FS++[]),rt,gh⟩ ⟨sz,w'.heap,Inow z w' (rr++((pre++f1)++[])),TM.del rt d,gh⟩ S:=
  ((k4.trans kp3 fun _ _ h=>h).trans (r3.keeps_refl (fun _ _=>True) fun b hb=>(hI4 b).1 hb) fun _ _ h=>h) |> fun k=>⟨k.sz,k.old,fun d s r' _=>k.hdr d s r' trivial,fun d s r' _=>k.top d s r' trivial⟩
 obtain⟨FS',m1,m2⟩:=r4.back2 (d:=d) (r1:={ ro with cells:=cells' }) hro kp ⟨ro,hl,rfl,rfl,rfl,p3⟩
 rw[up_del r.srt] at m1 m2
 exact⟨FS',m1,m2⟩
end lend
def LendP (sz:TypeId→Nat) (h:Array Obj) (I:Nat→Prop) (g:G) (ro:Root) (fd:List Nat) (B:Blk) (cells:List T) (vals:List Value) (new:List T→Option (List T)):Prop:=
 ∃ fm fr,Both fd (B.b::fm) fr∧(∃ arr,h[B.b]?=some (.cells arr B.el B.fz)∧fzFree B.fz arr.size∧arr.toList=B.pre++vals++B.post)∧okL sz h I cells vals fm∧
  ∀ h' I' cells' fm' vals' arr' cs2,(∀ x,I x→I' x∧h'[x]?=h[x]?)→(∀ x,x∈fr→h'[x]?=h[x]?)→h'[B.b]?=some (.cells arr' B.el B.fz)→arr'.toList=B.pre++vals'++B.post→vals'.length=vals.length→
   okL sz h' I' cells' vals' fm'→skL sz h' h cells' cells vals' vals→new cells'=some cs2→
   ∃ g1 f1,okRoot sz h' I' g1 { ro with cells:=cs2 } f1∧Both f1 (B.b::fm') fr∧g1.blk=g.blk∧skL sz h' h cs2 ro.cells g1.vals g.vals
theorem size_mid {arr arr':Array Value} {pre vals vals' post:List Value} (h1:arr.toList=pre++vals++post) (h2:arr'.toList=pre++vals'++post) (h3:vals'.length=vals.length):arr'.size=arr.size:=by
 have e1:=congrArg List.length h1
 have e2:=congrArg List.length h2
 simp only[Array.length_toList,List.length_append] at e1 e2
 omega
theorem lendP_top {sz h I} {g:G} {ro:Root} {fd:List Nat} {B0:Blk} {off:Nat} (hb:g.blk=some B0) (hk:okRoot sz h I g ro fd) (hoff:off≤ro.cells.length):
  ∃ u1 u2,g.vals=u1++u2∧u1.length=off∧LendP sz h I g ro fd ⟨B0.b,B0.pre++u1,B0.post,B0.el,B0.fz⟩ (ro.cells.drop off) u2 (fun cs'=>some (ro.cells.take off++cs')):=by
 unfold okRoot at hk
 rw[hb] at hk
 obtain⟨hreal,fs',arr,rfl,e2,e3,e4,hL⟩:=hk
 have e1:(ro.cells.take off)++ro.cells.drop off=ro.cells:=List.take_append_drop _ _
 have hL':=hL
 rw[←e1] at hL'
 obtain⟨u1,u2,f1,f2,hus,rfl,l1,q1,q2⟩:=okL_split hL'
 have l1':u1.length=off:=by rw[l1,List.length_take];omega
 refine⟨u1,u2,hus,l1',f2,f1,fun x=>by simp only[List.count_cons,List.count_append];omega,⟨arr,e2,e3,by rw[e4,hus];simp only[List.append_assoc]⟩,q2,fun h' I' cells' fm' vals' arr' cs2 hI hf hb' ha hl ho hs hn=>?_⟩
 simp only[Option.some.injEq] at hn
 subst hn
 have q1':=okL_agree (h':=h') (I':=I') ⟨hI,hf⟩ q1
 have hsz:arr'.size=arr.size:=size_mid (pre:=B0.pre++u1) (by rw[e4,hus];simp only[List.append_assoc]) ha hl
 refine⟨⟨some B0,u1++vals'⟩,B0.b::(f1++fm'),⟨hreal,f1++fm',arr',rfl,hb',by rw[hsz];exact e3,by rw[ha];simp only[List.append_assoc],okL_app q1' ho⟩,fun x=>by simp only[List.count_cons,List.count_append];omega,hb.symm,?_⟩
 have:=skL_app (skL_refl hf q1) rfl l1.symm l1.symm hs
 rw[e1,←hus] at this
 exact this
theorem graft_id:∀ {p:List (Nat×Nat)} {cs k:List T},descend cs p=some k→graft (fun x=>some x) cs p=some cs
 | [],cs,k,h=>rfl
 | (c,i)::rest,cs,k,h=>by
  simp only[descend] at h
  split at h
  ·rename_i e es hc
   split at h
   ·rename_i cs' hi
    simp only[graft,hc,hi,graft_id h]
    have h1:es.set i cs'=es:=by
     apply List.ext_getElem?
     intro j
     rw[List.getElem?_set]
     split
     ·rename_i hj;subst hj
      split
      ·exact hi.symm
      ·rename_i hlt;rw[List.getElem?_eq_none (by omega)]
     ·rfl
    rw[h1]
    congr 1
    apply List.ext_getElem?
    intro j
    rw[List.getElem?_set]
    split
    ·rename_i hj;subst hj
     split
     ·exact hc.symm
     ·rename_i hlt;rw[List.getElem?_eq_none (by omega)]
    ·rfl
   ·simp at h
  ·simp at h
theorem anyOwn_dead:∀ n,anyOwn (List.replicate n T.dead)=false
 | 0=>rfl
 | n+1=>by simp only[List.replicate_succ,anyOwn,isOwn,anyOwn_dead n,Bool.or_false]
theorem okL_dead {sz h I}:∀ {us:List Value},okL sz h I (List.replicate us.length T.dead) us []
 | []=>by simp[okL]
 | u::us=>by
  simp only[List.length_cons,List.replicate_succ,okL]
  exact⟨u,us,[],[],rfl,rfl,by simp only[okV],okL_dead⟩
def newP (cs:List T) (c0 i:Nat) (rest:List (Nat×Nat)) (t0:T) (off:Nat) (cs':List T):Option (List T):=
 match graft (fun x=>some (x.take off++cs')) [t0] ((0,i)::rest) with
 | some [t1]=>some (cs.set c0 t1)
 | _=>none
theorem lendP_deep {sz h I} {g:G} {ro:Root} {fd:List Nat} {c0 i off:Nat} {rest:List (Nat×Nat)} {t0:T} {cp:List T} (hk:okRoot sz h I g ro fd) (hufd:Uniq fd) (hc:ro.cells[c0]?=some t0) (hd:descend [t0] ((0,i)::rest)=some cp) (hoff:off≤cp.length):
  ∃ b o arr el fz u1 u2,h[b]?=some (.cells arr el fz)∧(arr.toList.drop o).take cp.length=u1++u2∧u1.length=off∧o+cp.length≤arr.size∧(∀ ad,loc sz h ro.cells g.vals ad ((c0,i)::rest)=some (cp,(arr.toList.drop o).take cp.length,some (b,o)))∧
   LendP sz h I g ro fd ⟨b,arr.toList.take o++u1,arr.toList.drop (o+cp.length),el,fz⟩ (cp.drop off) u2 (newP ro.cells c0 i rest t0 off):=by
 have hsplit:∃ f0 pre,fd=pre++f0∧okL sz h I ro.cells g.vals f0∧
   ∀ h' I' f1 cs,(∀ b,b∈pre→h'[b]?=h[b]?)→okL sz h' I' cs g.vals f1→okRoot sz h' I' g { ro with cells:=cs } (pre++f1):=by
  unfold okRoot at hk ⊢
  split at hk
  ·exact⟨fd,[],rfl,hk.2,fun h' I' f1 cs _ h=>⟨hk.1,h⟩⟩
  ·rename_i b hb
   obtain⟨hreal,fs',arr,rfl,e2,e3,e4,hL⟩:=hk
   exact⟨fs',[b.b],rfl,hL,fun h' I' f1 cs hp h=>⟨hreal,f1,arr,rfl,by rw[hp b.b (by simp)];exact e2,e3,e4,h⟩⟩
 obtain⟨f0,pre,rfl,hL,hroot⟩:=hsplit
 have huf:Uniq f0:=fun y=>by have:=hufd y;simp only[List.count_append] at this;omega
 obtain⟨u0,fo,fr0,v0,q0,k0,rb0⟩:=okL_focus hL hc
 have hufo:=q0.uniq_l huf
 obtain⟨b,o,arr,el,fz,fp,R,l1,l2,l3,l4,l5,q1,k1,rb1⟩:=path_ok (ad:=none) (by simp) (okL_one.2 k0) hufo hd
 have hw:((arr.toList.drop o).take cp.length).length=cp.length:=okL_length k1
 have e1:(cp.take off)++cp.drop off=cp:=List.take_append_drop _ _
 have k1':=k1
 rw[←e1] at k1'
 obtain⟨u1,u2,f1,f2,hus,rfl,n1,m1,m2⟩:=okL_split k1'
 rw[e1] at hus
 have hn1:u1.length=off:=by rw[n1,List.length_take];omega
 have hn2:u2.length=cp.length - off:=by have:=okL_length m2;rwa[List.length_drop] at this
 have hwin:arr.toList=arr.toList.take o++(u1++u2)++arr.toList.drop (o+cp.length):=by
  rw[←hus,List.append_assoc,←List.drop_drop,List.take_append_drop,List.take_append_drop]
 have hpo:(arr.toList.take o).length=o:=by rw[List.length_take,Array.length_toList];omega
 have hRb:∀ x,R.count x=(R.erase b).count x+(if b=x then 1 else 0):=fun x=>by
  rw[List.count_erase]
  split
  ·rename_i hx
   have hx:b=x:=by simpa using hx
   subst hx
   have:=List.count_pos_iff.2 l5
   simp only[if_true]
   omega
  ·rename_i hx
   have hx:¬ b=x:=by simpa using hx
   rw[if_neg hx]
   omega
 refine⟨b,o,arr,el,fz,u1,u2,l2,hus,hn1,l4,fun ad=>by rw[loc_head (ad':=none) hc v0];exact l1,f2,pre++(f1++(R.erase b++fr0)),fun x=>?_,⟨arr,l2,l3,by rw[List.append_assoc (arr.toList.take o)];exact hwin⟩,m2,fun h' I' cells' fm' vals' arr' cs2 hI hf hb' ha hl ho hs hn=>?_⟩
 ·have y1:=q0 x
  have y2:=q1 x
  have y3:=hRb x
  simp only[List.count_append,List.count_cons,beq_iff_eq] at *
  omega
 simp only at hb' ha
 have hfp:∀ x,x∈pre→h'[x]?=h[x]?:=fun x hx=>hf x (by simp[hx])
 have hf1:∀ x,x∈f1→h'[x]?=h[x]?:=fun x hx=>hf x (by simp[hx])
 have hfR:∀ x,x∈R→x≠b→h'[x]?=h[x]?:=fun x hx hxb=>hf x (by
  have h1:=List.count_pos_iff.2 hx
  have h2:=hRb x
  rw[if_neg (Ne.symm hxb)] at h2
  have h3:x∈R.erase b:=List.count_pos_iff.1 (by omega)
  simp[h3])
 have hfr0:∀ x,x∈fr0→h'[x]?=h[x]?:=fun x hx=>hf x (by simp[hx])
 have hsz:arr'.size=arr.size:=size_mid (pre:=arr.toList.take o++u1) (vals:=u2) (by rw[List.append_assoc (arr.toList.take o)];exact hwin) ha hl
 have ha':arr'.toList=arr.toList.take o++(u1++vals')++arr.toList.drop (o+cp.length):=by rw[ha,List.append_assoc (arr.toList.take o)]
 have hcl':cells'.length=cp.length - off:=by rw[←okL_length ho,hl,hn2]
 have hcl2:(cp.take off++cells').length=cp.length:=by rw[List.length_append,List.length_take,hcl'];omega
 have m1':=okL_agree (h':=h') (I':=I') ⟨hI,hf1⟩ m1
 obtain⟨cs2l,fs2,g1,g2,g3⟩:=rb1 h' I' (cp.take off++cells') (u1++vals') (f1++fm') arr' (fun x=>some (x.take off++cells')) rfl hI hfR hb' hsz ha' hcl2 (okL_app m1' ho)
 have hcs2:∃ t1,cs2l=[t1]:=by
  have:=okL_length g2
  match cs2l,this with
  | [t1],_=>exact⟨t1,rfl⟩
 obtain⟨t1,rfl⟩:=hcs2
 unfold newP at hn
 rw[g1] at hn
 simp only[Option.some.injEq] at hn
 subst hn
 obtain⟨f3,r1,r2⟩:=rb0 h' I' t1 u0 fs2 ⟨hI,hfr0⟩ (okL_one.1 g2)
 rw[set_self v0] at r1
 refine⟨g,pre++f3,hroot h' I' f3 _ hfp r1,fun x=>?_,rfl,?_⟩
 ·have y1:=q0 x
  have y2:=g3 x
  have y3:=hRb x
  have y4:=r2 x
  simp only[List.count_append,List.count_cons,beq_iff_eq] at *
  omega
 have hdl:(List.replicate (cp.length - off) T.dead).length=u2.length:=by rw[List.length_replicate,hn2]
 have hD:(cp.take off++List.replicate (cp.length - off) T.dead).length=cp.length:=by rw[List.length_append,List.length_take,List.length_replicate];omega
 have okd:okL sz h I (cp.take off++List.replicate (cp.length - off) T.dead) ((arr.toList.drop o).take cp.length) f1:=by
  rw[hus,←hn2]
  have:=okL_app m1 (okL_dead (sz:=sz) (h:=h) (I:=I) (us:=u2))
  rwa[List.append_nil] at this
 have okd':okL sz h' I' (cp.take off++List.replicate (cp.length - off) T.dead) (u1++vals') f1:=by
  rw[←hn2,←hl]
  have:=okL_app m1' (okL_dead (sz:=sz) (h:=h') (I:=I') (us:=vals'))
  rwa[List.append_nil] at this
 let F:List T→Option (List T):=fun x=>if x.length=cp.length then some (x.take off++List.replicate (cp.length - off) T.dead) else none
 have hF:F cp=some (cp.take off++List.replicate (cp.length - off) T.dead):=if_pos rfl
 obtain⟨csd,fsd,d1,d2,d3⟩:=rb1 h I _ _ f1 arr F hF (fun x hx=>⟨hx,rfl⟩) (fun x _ _=>rfl) l2 rfl (by rw[hus];exact hwin) hD okd
 have hcsd:∃ td,csd=[td]:=by
  have:=okL_length d2
  match csd,this with
  | [td],_=>exact⟨td,rfl⟩
 obtain⟨td,rfl⟩:=hcsd
 have lt1:(cp.take off).length=off:=by rw[List.length_take];omega
 have sk0:skL sz h h [td] [t0] [u0] [u0]:=path_sk (g:=F) (c1:=cp.take off++List.replicate (cp.length - off) T.dead) (ad:=none) (by simp) (okL_one.2 k0) hufo hd l1 l2 l4 (fun x _ _=>rfl) l2 (by rw[hus];exact hwin) hw hF hD
  (by
   have:=skL_app (c2:=List.replicate (cp.length - off) T.dead) (d2:=cp.drop off) (u2:=u2) (v2:=u2) (skL_refl (h':=h) (fun _ _=>rfl) m1) rfl n1.symm n1.symm (skL_none (anyOwn_dead _) (by rw[List.length_replicate,List.length_drop]) hdl hdl)
   rw[e1,←hus] at this
   exact this) d1
 have hudd:Uniq fsd:=fun x=>by
  have h1:=huf x
  have h2:=q0 x;have h3:=q1 x;have h6:=d3 x
  simp only[List.count_append] at h3
  omega
 obtain⟨kd,hkd,hdd⟩:=descend_graft d1 hd
 rw[hF] at hkd
 simp only[Option.some.injEq] at hkd
 subst hkd
 obtain⟨csd',fsd',d1',d2',d3'⟩:=rb1 h' I' _ _ f1 arr' F hF hI hfR hb' hsz ha' hD okd'
 rw[d1] at d1'
 simp only[Option.some.injEq] at d1'
 subst d1'
 have hudd':Uniq fsd':=fun x=>by
  have h1:=huf x
  have h2:=q0 x;have h3:=q1 x;have h6:=d3' x
  simp only[List.count_append] at h3
  omega
 have locd:loc sz h [td] [u0] none ((0,i)::rest)=some (cp.take off++List.replicate (cp.length - off) T.dead,(arr.toList.drop o).take cp.length,some (b,o)):=by
  obtain⟨b',o',arr2,el',fz',fp',R',p1,p2,_,_,_,_,_,_⟩:=path_ok (ad:=none) (by simp) d2 hudd hdd
  obtain⟨kk,vv,n1,n2⟩:=sk_loc sk0 p1
  rw[l1] at n1
  simp only[Option.some.injEq,Prod.mk.injEq] at n1
  obtain⟨rfl,rfl,rfl,rfl⟩:=n1
  rw[l2] at p2
  simp only[Option.some.injEq,Obj.cells.injEq] at p2
  obtain⟨rfl,_⟩:=p2
  rw[p1,hD]
 have hfsd:∀ x,x∈fsd→x≠b→h'[x]?=h[x]?:=fun x hx hxb=>by
  rcases (d3.mem x).1 hx with hx | hx
  ·exact hf1 x hx
  ·exact hfR x hx hxb
 have lv':(u1++vals').length=cp.length:=by rw[List.length_append,hn1,hl,hn2];omega
 have sk1':skL sz h' h [td] [td] [u0] [u0]:=path_sk (g:=fun x=>some x) (c1:=cp.take off++List.replicate (cp.length - off) T.dead) (vs1:=u1++vals') (arr':=arr') (ad:=none) (by simp) d2 hudd hdd locd l2 (by rw[hD];exact l4) hfsd hb'
  (by rw[hD];exact ha') (by rw[hD];exact lv') rfl rfl
  (by
   rw[hD,hus]
   exact skL_app (skL_refl hf1 m1) rfl n1.symm n1.symm (skL_none (anyOwn_dead _) rfl (by rw[List.length_replicate,hl,hn2]) hdl)) (graft_id hdd)
 have sk1:skL sz h' h [td] [t0] [u0] [u0]:=skL_trans sk1' sk0
 have sk2:skL sz h' h [t1] [t0] [u0] [u0]:=by
  have hgg:graft (fun x=>some (x.take off++cells')) [td] ((0,i)::rest)=some [t1]:=by
   rw[graft_graft (g2:=fun x=>some (x.take off++cells')) (fun k k1 hk=>by
    simp only[F] at hk
    split at hk
    ·rename_i hlen
     simp only[Option.some.injEq] at hk
     subst hk
     have:(k.take off).length=off:=by rw[List.length_take];omega
     rw[List.take_append_of_le_length (by omega),List.take_of_length_le (by omega)]
    ·simp at hk) d1]
   exact g1
  refine sk_graft (ad:=none) sk1 hgg fun k' v' a' k v a k2' w1 w2 w3=>?_
  rw[l1] at w2
  simp only[Option.some.injEq,Prod.mk.injEq] at w2
  obtain⟨rfl,rfl,_⟩:=w2
  simp only[Option.some.injEq] at w3
  subst w3
  obtain⟨b',o',arr2,el',fz',fp',R',p1,p2,_,_,_,_,_,_⟩:=path_ok (ad:=none) (by simp) d2' hudd' hdd
  obtain⟨kk,vv,y1,y2⟩:=sk_loc sk1 w1
  rw[l1] at y1
  simp only[Option.some.injEq,Prod.mk.injEq] at y1
  obtain⟨rfl,rfl,rfl⟩:=y1
  rw[p1] at w1
  simp only[Option.some.injEq,Prod.mk.injEq] at w1
  obtain⟨rfl,rfl,e4,rfl⟩:=w1
  subst e4
  rw[hb'] at p2
  simp only[Option.some.injEq,Obj.cells.injEq] at p2
  obtain⟨rfl,_⟩:=p2
  have hv':(arr'.toList.drop o').take (cp.take off++List.replicate (cp.length - off) T.dead).length=u1++vals':=by
   rw[hD,ha',List.append_assoc,List.drop_append_of_le_length (by omega),List.drop_of_length_le (by omega),List.nil_append,List.take_append_of_le_length (by omega),List.take_of_length_le (by omega)]
  rw[hv',hus,List.take_append_of_le_length (by omega),List.take_of_length_le (l:=cp.take off) (by omega)]
  have:=skL_app (skL_refl hf1 m1) rfl n1.symm n1.symm hs
  rw[e1] at this
  exact this
 obtain⟨fX,x1,x2⟩:=rb0 h I .dead u0 [] ⟨fun x hx=>⟨hx,rfl⟩,fun x _=>rfl⟩ (by simp only[okV])
 rw[set_self v0] at x1
 have sk3:skL sz h h (ro.cells.set c0 .dead) ro.cells g.vals g.vals:=by
  have:=skL_set (h':=h) (t':=.dead) (u':=u0) hL hc v0 fun _ _ _ _=>⟨fun b _=>rfl,fun h=>by simp[isOwn] at h,by simp only[skV]⟩
  rw[set_self v0] at this
  exact this
 have sk4:skL sz h' h (ro.cells.set c0 .dead) ro.cells g.vals g.vals:=skL_trans (skL_refl (fun x hx=>by
  rcases (x2.mem x).1 hx with hx | hx
  ·simp at hx
  ·exact hfr0 x hx) x1) sk3
 have hlt0:c0<ro.cells.length:=(List.getElem?_eq_some_iff.1 hc).1
 have:=skL_put (c:=c0) (t0:=.dead) (t':=t1) sk4 (by simp[hlt0]) fun t ua ub z1 z2 z3=>?_
 ·rw[List.set_set] at this;exact this
 ·rw[hc] at z1
  rw[v0] at z2 z3
  simp only[Option.some.injEq] at z1 z2 z3
  subst z1;subst z2;subst z3
  simp only[skL] at sk2
  obtain⟨_,_,_,_,_,_,y1,y2,y3,_,y5,_⟩:=sk2
  simp only[List.cons.injEq] at y1 y2 y3
  obtain⟨rfl,_⟩:=y1
  obtain⟨rfl,_⟩:=y3
  exact⟨fun _=>rfl,y5⟩
theorem HRel.back3 {sz z rt gh w FS X f d} {g1:G} {r1:Root} {x0:Cx} {S:Nat→Nat→Prop} (r:HRel sz z rt gh w FS (f++X)) (hr:okRoot sz w.heap (Inow z w (FS++(f++X))) g1 r1 f)
  (kp:Keeps x0 ⟨sz,w.heap,Inow z w (FS++(f++X)),rt,gh⟩ S)
  (hb:∃ ro,lk x0.rt d=some ro∧ro.ver=r1.ver∧ro.hver=r1.hver∧g1.blk=(x0.gh d).blk∧skL x0.sz w.heap x0.h r1.cells ro.cells g1.vals (x0.gh d).vals):
  ∃ FS',HRel sz z (up rt d r1) (gset gh d g1) w FS' X∧(∀ b,Inow z w (FS++(f++X)) b→Inow z w (FS'++X) b)∧Keeps x0 ⟨sz,w.heap,Inow z w (FS'++X),up rt d r1,gset gh d g1⟩ S:=by
 obtain⟨fo,rr,q1,_,_,_,q4⟩:=okRts_up (d:=d) r.srt r.roots
 obtain⟨FS',p1,p2⟩:=q4 w.heap _ g1 r1 f ⟨fun b hb=>⟨hb,rfl⟩,fun b _=>rfl⟩ hr
 have hm:∀ b,b∈FS'++X→b∈FS++(f++X):=fun b hb=>by
  have h0:=List.count_pos_iff.2 hb
  have h1:=q1 b
  have h2:=p2 b
  rw[←List.count_pos_iff]
  simp only[List.count_append] at *
  omega
 have hI:∀ b,Inow z w (FS++(f++X)) b→Inow z w (FS'++X) b:=fun b hb=>r.imm_grow (Nat.le_refl _) (fun b hb=>.inl (hm b hb)) hb
 obtain⟨ro,b1,b2,b3,b4,b5⟩:=hb
 refine⟨FS',⟨up_srt r.srt,okRts_agree ⟨fun b hb=>⟨hI b hb,rfl⟩,fun b _=>rfl⟩ p1,fun x=>?_,fun b hb=>r.lt b (hm b hb),fun b hb=>r.zone b (hm b hb),r.fr⟩,hI,kp.sz,fun b hb=>⟨hI b (kp.old b hb).1,(kp.old b hb).2⟩,?_,?_⟩
 ·have h1:=q1 x
  have h2:=p2 x
  have h3:=r.uniq x
  simp only[List.count_append] at *
  omega
 ·intro d' s r' hs h1 h2
  by_cases he:d'=d
  ·subst he
   simp only[lk_up_self,Option.some.injEq] at h1
   subst h1;subst h2
   exact⟨ro,b1,b3,by simpa[gset] using b4,by simpa[gset] using b5⟩
  ·simp only[lk_up_ne _ _ _ _ he] at h1
   obtain⟨r0,g1',g2,g3,g4⟩:=kp.hdr d' s r' hs h1 h2
   exact⟨r0,g1',g2,by simpa[gset,he] using g3,by simpa[gset,he] using g4⟩
 ·intro d' s r' hs h1 h2
  by_cases he:d'=d
  ·subst he
   simp only[lk_up_self,Option.some.injEq] at h1
   subst h1;subst h2
   exact⟨ro,b1,b2,by simpa[gset] using b4⟩
  ·simp only[lk_up_ne _ _ _ _ he] at h1
   obtain⟨r0,g1',g2,g3⟩:=kp.top d' s r' hs h1 h2
   exact⟨r0,g1',g2,by simpa[gset,he] using g3⟩
theorem up_up1 {α:Type}:∀ {l:List (Nat×α)} {d:Nat} {x y:α},up (up l d x) d y=up l d y
 | [],d,x,y=>by simp[up]
 | (k,z)::l,d,x,y=>by
  simp only[up]
  by_cases h:k=d
  ·simp[h,up]
  ·by_cases h2:d<k
   ·simp[h,h2,up]
   ·simp only[if_neg h,if_neg h2,up,up_up1]
theorem rowN_eq {tick d:Nat}:∀ {cs:List T} {k:Nat} {rt:List (Nat×Root)} {ro:Root},lk rt d=some ro→cs≠[]→k+cs.length=ro.cells.length→
  setCells tick rt (rowN d k cs)=up rt d { ro with cells:=ro.cells.take k++cs }
 | [],k,rt,ro,_,hn,_=>absurd rfl hn
 | c::cs,k,rt,ro,hl,_,hlen=>by
  simp only[List.length_cons] at hlen
  have h1:setCell tick rt ⟨d,k,c,false⟩=up rt d { ro with cells:=ro.cells.set k c }:=by
   unfold setCell;simp only[hl,Bool.false_eq_true,if_false]
  simp only[rowN,setCells,h1]
  have hset:ro.cells.set k c=ro.cells.take k++c::ro.cells.drop (k+1):=by
   rw[List.set_eq_take_append_cons_drop,if_pos (by omega)]
  cases cs with
  | nil=>
   simp only[rowN,setCells]
   rw[hset,List.drop_of_length_le (by simp at hlen;omega)]
  | cons c' cs=>
   rw[rowN_eq (ro:={ ro with cells:=ro.cells.set k c }) (lk_up_self _ _ _) (by simp) (by rw[List.length_set];simp at hlen ⊢;omega)]
   rw[up_up1]
   congr 2
   show (ro.cells.set k c).take (k+1)++c'::cs=ro.cells.take k++c::c'::cs
   rw[hset]
   have hk:(ro.cells.take k).length=k:=by rw[List.length_take];simp at hlen;omega
   rw[List.take_append,hk,List.take_of_length_le (by omega)]
   have e1:k+1 - k=1:=by omega
   rw[e1]
   simp
theorem far_place {sz:TypeId→Nat} {z:Zn} {rt:List (Nat×Root)} {gh:Nat→G} {w:World} {Ix:Nat→Prop} {d ver off:Nat} {path:List (Nat×Nat)} {cs:List T} (hp:(placeN d ver path off).run rt=some cs) (hne:cs≠[]):
  ∃ ro,lk rt d=some ro∧∀ I fd,okRoot sz w.heap I (gh d) ro fd→Uniq fd→∀ u0,okPtr ⟨sz,w.heap,Ix,rt,gh⟩ d ver path off u0→∃ B vals new,LendP sz w.heap I (gh d) ro fd B cs vals new∧
   (∀ u,okPtr ⟨sz,w.heap,Ix,rt,gh⟩ d ver path off u→u=.pointer (some ⟨B.b,B.pre.length,none⟩))∧
   ∀ tick cs' s,cs'.length=cs.length→(putN d ver path off cs').run rt=some s→∃ cells2,new cs'=some cells2∧setCells tick rt s=up rt d { ro with cells:=cells2 }:=by
 unfold placeN at hp
 split at hp
 ·obtain⟨ro,g1,g2,g3⟩:=run_root hp
  split at g3
  ·simp only[Rd.run,Option.some.injEq] at g3
   subst g3
   have hoff:off<ro.cells.length:=by
    rcases Nat.lt_or_ge off ro.cells.length with h | h
    ·exact h
    ·exact absurd (List.drop_of_length_le h) hne
   refine⟨ro,g1,fun I fd hk _ u0 hu0=>?_⟩
   obtain⟨B0,hb,_⟩:=hu0 ro g1 g2
   obtain⟨u1,u2,q1,q2,q3⟩:=lendP_top hb hk (Nat.le_of_lt hoff)
   refine⟨_,u2,_,q3,fun u hu=>?_,fun tick cs' s hl hs=>⟨_,rfl,?_⟩⟩
   ·obtain⟨B1,hb1,rfl⟩:=hu ro g1 g2
    have hb1:(gh d).blk=some B1:=hb1
    rw[hb] at hb1
    simp only[Option.some.injEq] at hb1
    subst hb1
    simp only[List.length_append,q2]
   ·simp only[putN,Rd.run,Option.some.injEq] at hs
    subst hs
    rw[List.length_drop] at hl
    exact rowN_eq g1 (by rintro rfl;simp at hl;omega) (by omega)
  ·simp[Rd.run] at g3
 ·rename_i c0 i rest
  obtain⟨ro,t0,g1,g2,g3,g4⟩:=run_cell hp
  split at g4
  ·rename_i cp hd
   simp only[Rd.run,Option.some.injEq] at g4
   subst g4
   have hoff:off<cp.length:=by
    rcases Nat.lt_or_ge off cp.length with h | h
    ·exact h
    ·exact absurd (List.drop_of_length_le h) hne
   refine⟨ro,g1,fun I fd hk huf u0 hu0=>?_⟩
   obtain⟨b,o,arr,el,fz,u1,u2,q1,q2,q3,q4,q5,q6⟩:=lendP_deep hk huf g3 hd (Nat.le_of_lt hoff)
   refine⟨_,u2,_,q6,fun u hu=>?_,fun tick cs' s hl hs=>?_⟩
   ·have:=hu ro g1 g2 cp _ b o (q5 _)
    rw[this]
    simp only[List.length_append,q3,List.length_take,Array.length_toList]
    rw[Nat.min_eq_left (by omega)]
   ·simp only[putN] at hs
    obtain⟨ro2,t02,j1,j2,j3,j4⟩:=run_cell hs
    rw[g1] at j1
    simp only[Option.some.injEq] at j1
    subst j1
    rw[g3] at j3
    simp only[Option.some.injEq] at j3
    subst j3
    split at j4
    ·rename_i t1 hgr
     simp only[Rd.run,Option.some.injEq] at j4
     subst j4
     exact⟨ro.cells.set c0 t1,by simp only[newP,hgr],by simp[setCells,setCell,g1]⟩
    ·simp[Rd.run] at j4
  ·simp[Rd.run] at g4
section far
variable {E:Env} {z:Zn} {n tick:Nat} {fr:List (Nat×T)} {rt:List (Nat×Root)} {gh:Nat→G} {w:World} {FS:List Nat} {a:Act}
variable {call:FuncId→List Arg→Option Res} {me:FuncId} {d:Nat} {ty0:TypeId} {e:Eff} {o:Oper}
theorem farArgs_all {sz:TypeId→Nat} {h:Array Obj} {I:Nat→Prop} {x:Cx} {rt0:List (Nat×Root)} {fL:List Nat}:∀ {ts:List T} {i:Nat} {ms:List Mode} {tys:List TypeId} {us:List Value} {l:FarArgs},(farArgs E i ms tys ts).run rt0=some l→
  (∀ t t' u ty ds,t∈ts→okX x t u→(seal2 (nilOf E ty t)).run rt0=some (t',ds)→(∀ d,d∈ds→d∈l.used)→okV sz h I t' u [])→
  (∀ k d ver path off u cs,T.ptr d ver path off∈ts→okX x (.ptr d ver path off) u→(placeN d ver path off).run rt0=some cs→(⟨k,d,ver,path,off,cs.length⟩:Way)∈l.way→okArg sz h I k ⟨.ptr k 0 [] 0,some ⟨0,0,true,cs⟩⟩ u fL)→
  All2 (okX x) ts us→(l.way=[]→okArgs sz h I i l.args us [])∧∀ y,l.way=[y]→okArgs sz h I i l.args us fL
 | [],i,ms,tys,us,l,h1,_,_,hk=>by
  simp only[farArgs,Rd.run,Option.some.injEq] at h1
  subst h1
  simp only[All2] at hk
  subst hk
  exact⟨fun _=>⟨rfl,rfl⟩,fun y hy=>by simp at hy⟩
 | t::ts,i,ms,tys,us,l,h1,hR,hN,hk=>by
  obtain⟨u,us',rfl,k1,k2⟩:=hk
  simp only[farArgs] at h1
  split at h1
  ·split at h1
   ·rename_i d ver path off
    obtain⟨cs,h2,h3⟩:=run_bind h1
    obtain⟨l',h4,h5⟩:=run_bind h3
    simp only[Rd.run,Option.some.injEq] at h5
    subst h5
    obtain⟨q1,q2⟩:=farArgs_all h4 (fun t t' u ty ds ht=>hR t t' u ty ds (by simp[ht])) (fun k d ver path off u cs hm hx hp hw=>hN k d ver path off u cs (by simp[hm]) hx hp (by simp[hw])) k2
    refine⟨fun hy=>by simp at hy,fun y hy=>?_⟩
    simp only[List.cons.injEq] at hy
    exact⟨u,us',fL,[],rfl,by simp,hN i d ver path off u cs (by simp) k1 h2 (by simp),q1 hy.2⟩
   ·simp[Rd.run] at h1
  ·obtain⟨⟨t',ds⟩,h2,h3⟩:=run_bind h1
   obtain⟨l',h4,h5⟩:=run_bind h3
   simp only[Rd.run,Option.some.injEq] at h5
   subst h5
   obtain⟨q1,q2⟩:=farArgs_all h4 (fun t t' u ty ds ht hx hse hd=>hR t t' u ty ds (by simp[ht]) hx hse (fun d hm=>by simp[hd d hm])) (fun k d ver path off u cs hm hx hp hw=>hN k d ver path off u cs (by simp[hm]) hx hp hw) k2
   have hv:=hR t t' u _ ds (by simp) k1 h2 (fun d hm=>by simp[hm])
   exact⟨fun hy=>⟨u,us',[],[],rfl,rfl,⟨hv,rfl⟩,q1 hy⟩,fun y hy=>⟨u,us',[],fL,rfl,rfl,⟨hv,rfl⟩,q2 y hy⟩⟩
theorem farArgs_way {x:Cx} {rt0:List (Nat×Root)}:∀ {ts:List T} {i:Nat} {ms:List Mode} {tys:List TypeId} {us:List Value} {l:FarArgs},(farArgs E i ms tys ts).run rt0=some l→All2 (okX x) ts us→
  ∀ y,y∈l.way→∃ k u cs,y.i=i+k∧us[k]?=some u∧okX x (.ptr y.d y.ver y.path y.off) u∧(placeN y.d y.ver y.path y.off).run rt0=some cs∧y.n=cs.length∧(l.args[k]?).bind (·.root)=some ⟨0,0,true,cs⟩
 | [],i,ms,tys,us,l,h1,_,y,hy=>by
  simp only[farArgs,Rd.run,Option.some.injEq] at h1
  subst h1
  simp at hy
 | t::ts,i,ms,tys,us,l,h1,hk,y,hy=>by
  obtain⟨u,us',rfl,k1,k2⟩:=hk
  simp only[farArgs] at h1
  split at h1
  ·split at h1
   ·rename_i d ver path off
    obtain⟨cs,h2,h3⟩:=run_bind h1
    obtain⟨l',h4,h5⟩:=run_bind h3
    simp only[Rd.run,Option.some.injEq] at h5
    subst h5
    rcases List.mem_cons.1 hy with rfl | hy
    ·exact⟨0,u,cs,rfl,by simp,k1,h2,rfl,by simp⟩
    ·obtain⟨k,u',cs',q1,q2,q3,q4,q5,q6⟩:=farArgs_way h4 k2 y hy
     exact⟨k+1,u',cs',by omega,by simpa using q2,q3,q4,q5,by simpa using q6⟩
   ·simp[Rd.run] at h1
  ·obtain⟨⟨t',ds⟩,h2,h3⟩:=run_bind h1
   obtain⟨l',h4,h5⟩:=run_bind h3
   simp only[Rd.run,Option.some.injEq] at h5
   subst h5
   obtain⟨k,u',cs',q1,q2,q3,q4,q5,q6⟩:=farArgs_way h4 k2 y hy
   exact⟨k+1,u',cs',by omega,by simpa using q2,q3,q4,q5,by simpa using q6⟩
theorem callFar_ok (ht:TiOk E) (h:Here E z n tick fr rt gh w FS a) (hcall:∀ f args r,call f args=some r→Sound E f args r) {f:FuncId} {tys:List TypeId} {ts:List T} {us:List Value} (hnl:lends (E.mode f)=false)
  (he:(callFar E call me d tick f tys ts).run rt=some e) (hd:EffOk tick rt d e) (hk:All2 (okX ⟨szOf E,w.heap,Inow z w (FS++[]),rt,gh⟩) ts us) (hs:∀ t,t∈ts→stX (Stm tick rt) t):
  Calls E.P f us.toArray w fun | .returned u,w'=>Done E z tick rt (rtOf tick rt d e) gh w FS e.val u w' | _,_=>False:=by
 unfold callFar at he
 obtain⟨l,h1,he1⟩:=run_bind he
 clear he
 split at he1
 ·rename_i y hway
  split at he1
  ·simp[Rd.run] at he1
  ·rename_i hused
   have hused:y.d∉l.used:=by simpa using hused
   split at he1
   ·rename_i r hr
    split at he1
    ·rename_i j cs' houts
     split at he1
     ·rename_i hcond
      obtain⟨c1,c2,c3,c4⟩:=hcond
      obtain⟨s,h3,h4⟩:=run_bind he1
      simp only[Rd.run,Option.some.injEq] at h4
      have hsets:e.sets=s:=by
       rw[←h4,with_sets.2.2]
       have:(sealRes (E.keep me d) d tick r.ret).sets=[]:=by unfold sealRes;split<;>first | exact rooted_sets | rfl
       rw[this];rfl
      obtain⟨k,u,cs,w1,w2,w3,w4,w5,w6⟩:=farArgs_way h1 hk y (by rw[hway];simp)
      rw[Nat.zero_add] at w1
      have hcs:cs≠[]:=by rintro rfl;rw[w5] at c2;have:=List.length_eq_zero_iff.1 c2;subst this;simp at c3
      obtain⟨ro,hl,place⟩:=far_place (sz:=szOf E) (z:=z) (gh:=gh) (w:=w) (Ix:=Inow z w (FS++[])) w4 hcs
      obtain⟨fd,rr,k1,k2,k3,k4⟩:=h.heap.del hl
      have hufd:Uniq fd:=fun x=>by have:=k2.uniq x;simp only[List.count_append,List.count_nil] at this;omega
      obtain⟨B,vals,new,⟨fm,fr',q1,⟨arr0,q2,q2',q2''⟩,q3,q4⟩,hptr,hput⟩:=place _ fd k1 hufd u w3.2
      have hfdlt:∀ b,b∈fd→b<w.heap.size:=fun b hb=>k2.lt b (by simp[hb])
      have hF:∀ b,b∈B.b::fm→b∈fd:=fun b hb=>(q1.mem b).2 (.inl hb)
      have hfr:∀ b,b∈fr'→b∈fd:=fun b hb=>(q1.mem b).2 (.inr hb)
      have hdis:∀ b,b∈fr'→b∉B.b::fm:=fun b h1 h2=>q1.apart hufd h2 h1
      have hz':∀ b,Ileans (Inow z w (rr++(fd++[]))) rr l.used b→b<w.heap.size∧b∉B.b::fm:=fun b hb=>by
       rcases hb with hb | hb
       ·exact⟨(k2.imm hb).1,fun hm=>(k2.imm hb).2 (by simp[hF b hm])⟩
       ·refine⟨k2.lt b (by simp[hb.2]),fun hm=>?_⟩
        have h1:=k2.uniq b
        have h2:=List.count_pos_iff.2 hb.2
        have h3:=List.count_pos_iff.2 (hF b hm)
        simp only[List.count_append,List.count_nil] at h1
        omega
      have hrt2:∀ e,e∈l.used→lk (TM.del rt y.d) e=lk rt e:=fun e he=>lk_del_ne rt y.d e (fun hh=>hused (hh▸he))
      obtain⟨_,args⟩:=farArgs_all (sz:=szOf E) (h:=w.heap) (I:=Ileans (Inow z w (rr++(fd++[]))) rr l.used) (x:=⟨szOf E,w.heap,Inow z w (FS++[]),rt,gh⟩) (fL:=B.b::fm) h1
       (fun t t' u ty ds _ hx hseal hu=>by
        have hx2:=k4.x stX_True hx
        obtain⟨n1,n2⟩:=nilOf_ok ht (S:=fun _ _=>True) (ty:=ty) hx2 stX_True
        have hcg:=seal2_congr (rt':=TM.del rt y.d) hseal (fun e he=>hrt2 e (hu e he))
        exact okV_leans (seal2_ok k2 n1 hcg) (fun hne=>by
         obtain⟨e,he⟩:=List.exists_mem_of_ne_nil ds hne
         exact List.ne_nil_of_mem (hu e he)))
       (fun k' d' ver' path' off' u' cs2 _ hx hp hw=>by
        rw[hway] at hw
        simp only[List.mem_singleton] at hw
        subst hw
        rw[hp] at w4
        simp only[Option.some.injEq] at w4
        subst w4
        refine⟨⟨some B,vals⟩,⟨rfl,fm,arr0,rfl,q2,q2',q2'',okL_agree ⟨fun b hb=>⟨.inl hb,rfl⟩,fun b _=>rfl⟩ q3⟩,rfl,Nat.zero_le 1,.inl ⟨rfl,rfl,B,rfl,hptr u' hx.2⟩⟩) hk
      have hok:=args y hway
      have hsound:=(hcall f l.args r hr).old hnl ⟨w,B.b::fm,Ileans (Inow z w (rr++(fd++[]))) rr l.used,hz',fun g p hg=>⟨.inl (k2.gok g p hg).1,(k2.gok g p hg).2⟩⟩ us (q1.uniq_l hufd) (fun b hb=>hfdlt b (hF b hb)) hok
      refine Calls.mono' hsound fun u2 w' back=>?_
      obtain⟨bfr,⟨f',fo,b1,b2,b3,b4⟩,bcl⟩:=back
      rw[houts] at b2
      obtain⟨B',f1,f2,arr',vals',hfo,o1,o2,o3,o4,o5,⟨arr00,vals0,p1,p2,p3⟩,hf2⟩:=b2
      have hf2:f2=[]:=hf2
      subst hf2
      rw[List.append_nil] at hfo
      subst hfo
      have hj:us[j]?=some (.pointer (some ⟨B.b,B.pre.length,none⟩)):=by rw[c1,w1,w2,hptr u w3.2]
      rw[hj] at o1
      simp only[Option.some.injEq,Value.pointer.injEq,Addr.mk.injEq] at o1
      obtain⟨y1,y2,_⟩:=o1
      have hroot:=p3 ⟨0,0,true,cs⟩ (by rw[c1,w1];exact w6)
      have hvl:vals.length=cs.length:=okL_length q3
      obtain⟨rfl,rfl⟩:=blk_same y1.symm y2.symm q2 q2'' p1 p2 (by rw[hroot.1,hvl])
      have hsk:=hroot.2 rfl
      have hwsz:w.heap.size≤w'.heap.size:=bfr.size
      have hz2:∀ b,Inow z w (rr++(fd++[])) b→b<w.heap.size∧b∉fd:=fun b hb=>⟨(k2.imm hb).1,fun hm=>(k2.imm hb).2 (by simp[hm])⟩
      have bfr2:Fr ⟨w,fd,_,hz2,k2.gok⟩ w':=⟨bfr.os,bfr.output,bfr.tape,bfr.size,fun b hb hn=>bfr.block b hb fun hm=>hn (hF b hm)⟩
      have hzb:∀ b,b∈f'++B'.b::f1→b∉fr':=fun b hb hm=>by
       rcases (b4 b hb).2 with h5 | h5
       ·exact hdis b hm h5
       ·have:=hfdlt b (hfr b hm);change w.heap.size≤b at h5;omega
      have hu3:Uniq (fr'++(f'++B'.b::f1)):=fun x=>by
       have e1:=b3 x
       have e2:=q1.uniq_r hufd x
       by_cases hx:x∈f'++B'.b::f1
       ·have:=List.count_eq_zero.2 (hzb x hx)
        rw[List.count_append]
        omega
       ·have:=List.count_eq_zero.2 hx
        rw[List.count_append]
        omega
      obtain⟨r3,kp3,hI3⟩:=k2.after (z':=⟨w,fd,_,hz2,k2.gok⟩) (w':=w') (X':=fr'++(f'++B'.b::f1)) rfl (fun b hb=>by simpa using hb) bfr2 hu3 (fun b hb=>by
       rcases List.mem_append.1 hb with hb | hb
       ·have:=hfdlt b (hfr b hb);exact⟨by omega,.inl (hfr b hb)⟩
       ·obtain⟨h5,h6⟩:=b4 b hb
        exact⟨h5,h6.imp (fun h=>hF b h) id⟩)
      have hI4:∀ b,Inow ⟨w,B'.b::fm,Ileans (Inow z w (rr++(fd++[]))) rr l.used,hz',fun g p hg=>⟨.inl (k2.gok g p hg).1,(k2.gok g p hg).2⟩⟩ w' (f'++B'.b::f1) b→Inow z w' (rr++(fr'++(f'++B'.b::f1))) b∨(l.used≠[]∧b∈rr):=fun b hb=>by
       rcases hb with hb | ⟨h5,h6,h7⟩
       ·rcases hb with hb | hb
        ·exact .inl (hI3 b hb)
        ·exact .inr hb
       ·refine .inl (.inr ⟨?_,h6,fun hm=>?_⟩)
        ·rcases h5 with h5 | h5
         ·exact k2.zone b (by simp[hF b h5])
         ·have:=k2.fr.size;change w.heap.size≤b at h5;exact .inr (by omega)
        ·rcases List.mem_append.1 hm with hm | hm
         ·rcases h5 with h5 | h5
          ·have e1:=k2.uniq b
           have e2:=List.count_pos_iff.2 hm
           have e3:=List.count_pos_iff.2 (hF b h5)
           simp only[List.count_append,List.count_nil] at e1
           omega
          ·have:=k2.lt b (by simp[hm]);change w.heap.size≤b at h5;omega
         ·rcases List.mem_append.1 hm with hm | hm
          ·rcases h5 with h5 | h5
           ·exact hdis b hm h5
           ·have:=hfdlt b (hfr b hm);change w.heap.size≤b at h5;omega
          ·exact h7 hm
      have hret:okV (szOf E) w'.heap (Inow z w' (rr++(fr'++(f'++B'.b::f1)))) r.ret u2 f'∧okL (szOf E) w'.heap (Inow z w' (rr++(fr'++(f'++B'.b::f1)))) cs' vals' f1:=by
       rcases Bool.or_eq_true_iff.1 c4 with hx | hx
       ·simp only[Bool.and_eq_true] at hx
        exact⟨okV_clean (bcl hx.1) b1,okL_clean hx.2 o5⟩
       ·have hu:l.used=[]:=by simpa using hx
        have hag:∀ b,Inow ⟨w,B'.b::fm,Ileans (Inow z w (rr++(fd++[]))) rr l.used,hz',fun g p hg=>⟨.inl (k2.gok g p hg).1,(k2.gok g p hg).2⟩⟩ w' (f'++B'.b::f1) b→Inow z w' (rr++(fr'++(f'++B'.b::f1))) b:=fun b hb=>by
         rcases hI4 b hb with h | h
         ·exact h
         ·exact absurd hu h.1
        exact⟨okV_agree ⟨fun b hb=>⟨hag b hb,rfl⟩,fun b _=>rfl⟩ b1,okL_agree ⟨fun b hb=>⟨hag b hb,rfl⟩,fun b _=>rfl⟩ o5⟩
      obtain⟨cells2,hnew,hset⟩:=hput tick cs' s (by rw[c2,w5]) h3
      obtain⟨g1,f3,m1,m2,m3,m4⟩:=q4 w'.heap (Inow z w' (rr++(fr'++(f'++B'.b::f1)))) cs' f1 vals' arr' cells2 (fun x hx=>⟨hI3 x hx,(kp3.old x hx).2⟩)
       (fun x hx=>bfr.block x (hfdlt x (hfr x hx)) (hdis x hx)) o2 o4 (by rw[okL_length o5,c2,w5,hvl]) hret.2 hsk hnew
      obtain⟨r4,hI5⟩:=r3.perm (X':=f3++(f'++[])) fun x=>by
       have:=m2 x
       simp only[List.count_append,List.count_nil,List.count_cons] at *
       omega
      have kp4:Keeps ⟨szOf E,w.heap,Inow z w (FS++[]),rt,gh⟩ ⟨szOf E,w'.heap,Inow z w' (rr++(f3++(f'++[]))),TM.del rt y.d,gh⟩ (Stm tick rt):=
       ((k4.trans kp3 fun _ _ h=>h).trans (r3.keeps_refl (fun _ _=>True) fun b hb=>(hI5 b).1 hb) fun _ _ h=>h) |> fun k=>⟨k.sz,k.old,fun d s r' _=>k.hdr d s r' trivial,fun d s r' _=>k.top d s r' trivial⟩
      obtain⟨FS3,r5,hI6,kp5⟩:=r4.back3 (d:=y.d) (r1:={ ro with cells:=cells2 }) (okRoot_agree ⟨fun b hb=>⟨(hI5 b).1 hb,rfl⟩,fun b _=>rfl⟩ m1) kp4 ⟨ro,hl,rfl,rfl,m3,m4⟩
      rw[up_del h.heap.srt,←hset] at r5 kp5
      have hv:okV (szOf E) w'.heap (Inow z w' (FS3++(f'++[]))) r.ret u2 f':=okV_agree ⟨fun b hb=>⟨hI6 b ((hI5 b).1 hb),rfl⟩,fun b _=>rfl⟩ hret.1
      have sl:Slot (szOf E) z tick d (setCells tick rt s) (gset gh y.d g1) w' (Inow z w' (FS3++(f'++[]))) (sealRes (E.keep me d) d tick r.ret) u2:=by
       unfold sealRes
       cases hkp:E.keep me d with
       | true=>
        simp only[if_true]
        exact slot_ok r5 hv (fun hsome r0 h0=>by
         obtain⟨rr',hrr⟩:=Option.isSome_iff_exists.1 hsome
         exact newOk_lt (hd.new rr' (by rw[←h4,with_sets.2.1];unfold sealRes;rw[hkp];exact hrr)) h0)
       | false=>
        simp only[Bool.false_eq_true,if_false]
        obtain⟨_,hI7⟩:=drop_floats r5
        have hseal:=okV_seal (I':=Inow z w' (FS3++[])) hI7 (fun b hb=>.inr ⟨r5.zone b (by simp[hb]),r5.lt b (by simp[hb]),fun hm=>by
         have h1:=r5.uniq b
         have h2:=List.count_pos_iff.2 hb
         have h3:=List.count_pos_iff.2 hm
         simp only[List.count_append,List.count_nil] at h1 h3
         omega⟩) hv
        have h0:=okV_0 (x:=⟨szOf E,w'.heap,Inow z w' (FS3++[]),setCells tick rt s,gset gh y.d g1⟩) (S:=Stm tick (setCells tick rt s)) hseal
        exact slot_plain r5 h0.1 h0.2
      obtain⟨gh2,FS4,z1,z2,z3,z4⟩:=sl
      have hroot:e.root=(sealRes (E.keep me d) d tick r.ret).root:=by rw[←h4];rfl
      have hval:e.val=(sealRes (E.keep me d) d tick r.ret).val:=by rw[←h4];rfl
      show Done _ _ _ _ _ _ _ _ _ _ _
      rw[rtOf_eq,hsets,hroot,hval]
      exact⟨gh2,FS4,z1,kp5.trans z2 fun a b h=>Stm_sets a b h,z3,z4⟩
     ·simp[Rd.run] at he1
    ·simp[Rd.run] at he1
   ·simp[Rd.run] at he1
 ·simp[Rd.run] at he1
end far
theorem up_same {α:Type}:∀ {l:List (Nat×α)} {d:Nat} {x:α},lk l d=some x→Srt l→up l d x=l
 | [],d,x,h,_=>by simp[lk] at h
 | (k,y)::l,d,x,h,hs=>by
  simp only[lk] at h
  simp only[up]
  split at h
  ·rename_i hk
   simp only[Option.some.injEq] at h
   subst hk;subst h
   simp
  ·rename_i hk
   rw[if_neg hk]
   split
   ·rename_i hlt
    have:=hs.1 (d,x) (lk_mem h)
    simp only at this
    omega
   ·rw[up_same h hs.2]
theorem up_up0 {α:Type}:∀ {l:List (Nat×α)} {d:Nat} {x y:α},up (up l d x) d y=up l d y
 | [],d,x,y=>by simp[up]
 | (k,v)::l,d,x,y=>by
  simp only[up]
  split
  ·rename_i hk;subst hk;simp[up]
  ·rename_i hk
   split
   ·simp[up]
   ·rename_i hlt
    simp only[up,if_neg hk,if_neg hlt,up_up0]
theorem putCells_nil:∀ {k:Nat} {cs:List T},putCells k [] cs=cs
 | 0,[]=>rfl
 | 0,_::_=>rfl
 | _+1,[]=>rfl
 | k+1,c::cs=>by simp only[putCells,putCells_nil]
theorem putCells_own:∀ {k:Nat} {t:T} {r cs:List T},isOwn t=true→k<cs.length→putCells k (t::r) cs=putCells (k+1) r (cs.set k t)
 | _,_,_,[],_,h=>by simp at h
 | 0,t,r,c::cs,h,_=>by simp[putCells,h]
 | k+1,t,r,c::cs,h,hl=>by simp only[List.set_cons_succ,putCells];rw[putCells_own h (by simpa using hl)]
theorem putCells_not:∀ {k:Nat} {t:T} {r cs:List T},isOwn t=false→k<cs.length→putCells k (t::r) cs=putCells (k+1) r cs
 | _,_,_,[],_,h=>by simp at h
 | 0,t,r,c::cs,h,_=>by simp[putCells,h]
 | k+1,t,r,c::cs,h,hl=>by simp only[putCells];rw[putCells_not h (by simpa using hl)]
theorem putRow_eq {tick d:Nat}:∀ {row:List T} {k:Nat} {rt:List (Nat×Root)} {ro:Root},Srt rt→lk rt d=some ro→k+row.length≤ro.cells.length→
  setCells tick rt (putRow d k row)=up rt d { ro with cells:=putCells k row ro.cells }
 | [],k,rt,ro,hs,hl,_=>by
  simp only[putRow,setCells,putCells_nil]
  exact (up_same hl hs).symm
 | t::row,k,rt,ro,hs,hl,hn=>by
  simp only[List.length_cons] at hn
  simp only[putRow]
  cases ht:isOwn t with
  | true=>
   simp only[if_true,setCells,setCell,hl,Bool.false_eq_true,if_false]
   rw[putRow_eq (up_srt hs) (lk_up_self _ _ _) (by simp;omega),up_up0,putCells_own ht (by omega)]
  | false=>
   simp only[Bool.false_eq_true,if_false]
   rw[putRow_eq hs hl (by omega),putCells_not ht (by omega)]
theorem lendRow_length {d ver:Nat}:∀ {views cs row k},lendRow d ver k views cs=some row→row.length=views.length∧views.length≤cs.length∧row.all lentCell=true
 | [],cs,row,k,h=>by simp only[lendRow,Option.some.injEq] at h;subst h;simp
 | t::ts,[],row,k,h=>by simp[lendRow] at h
 | t::ts,c::cs,row,k,h=>by
  simp only[lendRow] at h
  split at h
  ·rename_i x hx
   split at h
   ·rename_i xs hxs
    simp only[Option.some.injEq] at h
    subst h
    obtain⟨h1,h2,h3⟩:=lendRow_length hxs
    refine⟨by simp[h1],by simpa using h2,?_⟩
    simp only[List.all_cons,h3,Bool.and_true]
    unfold lendCell at hx
    split at hx
    ·split at hx
     ·simp only[Option.some.injEq] at hx;subst hx;rfl
     ·simp at hx
    ·split at hx
     ·simp only[Option.some.injEq] at hx;subst hx;rfl
     ·simp at hx
    ·simp at hx
   ·simp at h
  ·simp at h
theorem drop_cons_of {α:Type} {l:List α} {k:Nat} {u:α} (h:l[k]?=some u):∃ r,l.drop k=u::r:=by
 obtain⟨hk,rfl⟩:=List.getElem?_eq_some_iff.1 h
 exact⟨_,List.drop_eq_getElem_cons hk⟩
theorem LV_of {x:Cx} {d ver:Nat} {ro:Root} (hl:lk x.rt d=some ro) (hv:ro.hver=ver):∀ {views:List T} {us:List Value} {k:Nat} {row:List T},All2 (okX0 x) views us→
  lendRow d ver k views (ro.cells.drop k)=some row→LV views us ((x.gh d).vals.drop k)
 | [],us,k,row,hk,_=>hk
 | t::ts,us,k,row,hk,hr=>by
  obtain⟨u,us',rfl,k1,k2⟩:=hk
  cases hc:ro.cells.drop k with
  | nil=>rw[hc] at hr;simp[lendRow] at hr
  | cons c cs=>
   rw[hc] at hr
   simp only[lendRow] at hr
   split at hr
   ·rename_i y hy
    split at hr
    ·rename_i ys hys
     have hcs:ro.cells.drop (k+1)=cs:=by
      have:=congrArg List.tail hc
      simpa[List.tail_drop] using this
     have hck:ro.cells[k]?=some c:=by
      have:(ro.cells.drop k)[0]?=some c:=by rw[hc];rfl
      simpa using this
     refine⟨u,us',rfl,fun v hv=>?_,fun hv=>?_,?_⟩
     ·subst hv
      have:okV x.sz x.h x.I (.v v) u []:=k1
      simp only[okV,and_true] at this
      exact this
     ·unfold lendCell at hy
      split at hy
      ·rename_i d' v' c' n e es
       split at hy
       ·rename_i hh
        obtain⟨rfl,rfl,rfl,rfl⟩:=hh
        have:=k1.2 ro hl (by assumption) ro.cells (x.gh d').vals (x.addr d') rfl e es hck rfl
        exact drop_cons_of this
       ·simp at hy
      ·exact absurd rfl (hv _)
      ·simp at hy
     ·rw[List.drop_drop]
      exact LV_of hl hv k2 (by rw[hcs];exact hys)
    ·simp at hr
   ·simp at hr
section call
variable {E:Env} {z:Zn} {n tick:Nat} {fr:List (Nat×T)} {rt:List (Nat×Root)} {gh:Nat→G} {w:World} {FS:List Nat} {a:Act}
variable {call:FuncId→List Arg→Option Res} {d:Nat} {e:Eff}
theorem lend_done {me:FuncId} {f:FuncId} {uargs:List Value} {x:Value} {dd:Nat} {ro:Root} {cells':List T} (hval:e={ val:=.v x,sets:=e.sets }) (hroot:e.root=none) (hsets:setCells tick rt e.sets=up rt dd { ro with cells:=cells' })
  (hc:Calls E.P f uargs.toArray w fun
   | .returned u',w'=>u'=x∧∃ FS',HRel (szOf E) z (up rt dd { ro with cells:=cells' }) gh w' FS' []∧Keeps ⟨szOf E,w.heap,Inow z w (FS++[]),rt,gh⟩ ⟨szOf E,w'.heap,Inow z w' (FS'++[]),up rt dd { ro with cells:=cells' },gh⟩ (Stm tick rt)
   | _,_=>False):
  Calls E.P f uargs.toArray w fun | .returned u,w'=>Done E z tick rt (rtOf tick rt d e) gh w FS e.val u w' | _,_=>False:=by
 refine Calls.mono' hc fun u w' hx=>?_
 obtain⟨rfl,FS',h1,h2⟩:=hx
 have hr:rtOf tick rt d e=up rt dd { ro with cells:=cells' }:=by unfold rtOf;rw[hroot];exact hsets
 rw[hr]
 have hv:e.val=.v u:=by rw[hval]
 rw[hv]
 exact⟨gh,FS',h1,h2,okX_v.2 rfl,trivial⟩
theorem lendOne_ok (h:Here E z n tick fr rt gh w FS a) (hcall:∀ f args r,call f args=some r→Sound E f args r) {f:FuncId} (hnl:lends (E.mode f)=true) {dd ver c m:Nat} {path:List (Nat×Nat)} {xs:List T} {us:List Value}
  (he:(lendOne call f dd ver path c m xs).run rt=some e) (hk:All2 (okX ⟨szOf E,w.heap,Inow z w (FS++[]),rt,gh⟩) (.ref dd ver path c m::xs) us):
  Calls E.P f us.toArray w fun | .returned u,w'=>Done E z tick rt (rtOf tick rt d e) gh w FS e.val u w' | _,_=>False:=by
 unfold lendOne at he
 obtain⟨⟨ee,es⟩,h1,he1⟩:=run_bind he
 obtain⟨ys,h2,he2⟩:=run_bind he1
 have hys:=run_of h2
 obtain⟨u,us',rfl,k1,k2⟩:=hk
 have hus:=valsOf_X hys k2
 subst hus
 split at he2
 ·rename_i r hr
  split at he2
  ·rename_i x e' es' hret houts
   obtain⟨s,h3,h4⟩:=run_bind he2
   simp only[Rd.run,Option.some.injEq] at h4
   subst h4
   unfold content at h1
   obtain⟨t,h5,h6⟩:=run_bind h1
   cases t with
   | own e0 es0=>
    simp only at h6
    split at h6
    ·rename_i hn
     simp only[Rd.run,Option.some.injEq,Prod.mk.injEq] at h6
     obtain⟨rfl,rfl⟩:=h6
     subst hn
     have callee:∀ z':Zn,z'.w0=w→Uniq z'.F0→(∀ b,b∈z'.F0→b<w.heap.size)→okL (szOf E) w.heap z'.I0 [.own e0 es0] [u] z'.F0→Calls E.P f (u::us').toArray w fun
       | .returned u',w'=>u'=x∧BackL (szOf E) z' [u] [.own e0 es0] [.own e' es'] w'
       | _,_=>False:=fun z' hw hu hlt hok=>by
      subst hw
      obtain⟨x2,row2,q1,q2,q3⟩:=(hcall f _ r hr).lend hnl z' _ us' _ u [u] rfl (.one e0 es0 u) rfl hu hlt hok
      rw[hret] at q1
      rw[houts] at q2
      simp only[T.v.injEq,List.cons.injEq,Prod.mk.injEq,and_true,true_and] at q1 q2
      subst q1;subst q2
      exact Calls.mono' q3 fun _ _ hx=>hx
     have hx0:okX0 ⟨szOf E,w.heap,Inow z w (FS++[]),rt,gh⟩ (.ref dd ver path c es0.length) u:=k1
     cases path with
     | nil=>
      simp only[putBack,Rd.run,Option.some.injEq] at h3
      subst h3
      simp only[rdPlace] at h5
      obtain⟨ro,t,g1,g2,g3,g4⟩:=run_cell h5
      simp only[Rd.run,Option.some.injEq] at g4
      subst g4
      have hval:(gh dd).vals[c]?=some u:=hx0.2 ro g1 g2 ro.cells _ _ rfl e0 es0 g3 rfl
      obtain⟨ct,hct⟩:=drop_cons_of g3
      obtain⟨vt,hvt⟩:=drop_cons_of hval
      have hlt:c<ro.cells.length:=(List.getElem?_eq_some_iff.1 g3).1
      refine lend_done (me:=0) (dd:=dd) (ro:=ro) (cells':=ro.cells.set c (.own e' es')) rfl rfl (by simp[setCells,setCell,g1]) ?_
      refine lend_root (uargs:=u::us') (x:=x) (row:=[.own e0 es0]) (row':=[.own e' es']) (us:=[u]) (new:=fun row'=>if row'.map isOwn=[T.own e0 es0].map isOwn∧row'.all lentCell=true then some (putCells c row' ro.cells) else none) h.heap g1 (fun f0 I hL _=>?_) callee ?_
      ·refine lendT_row (d:=dd) (ver:=ver) (views:=[.ref dd ver [] c es0.length]) (j:=c) hL ?_ ?_
       ·rw[hct];simp[lendRow,lendCell]
       ·rw[hvt];exact⟨u,[],rfl,fun y hy=>by simp at hy,fun _=>⟨vt,rfl⟩,rfl⟩
      ·simp only[List.map_cons,isOwn,List.map_nil,List.all_cons,lentCell,List.all_nil,Bool.and_self,and_self,if_true,Option.some.injEq]
       rw[putCells_own rfl hlt,putCells_nil]
     | cons p rest=>
      obtain⟨c0,i⟩:=p
      simp only[rdPlace] at h5
      obtain⟨ro,t0,g1,g2,g3,g4⟩:=run_cell h5
      split at g4
      ·rename_i cp hd
       split at g4
       ·rename_i tt htt
        simp only[Rd.run,Option.some.injEq] at g4
        subst g4
        simp only[putBack] at h3
        obtain⟨ro2,t02,j1,j2,j3,j4⟩:=run_cell h3
        rw[g1] at j1
        simp only[Option.some.injEq] at j1
        subst j1
        rw[g3] at j3
        simp only[Option.some.injEq] at j3
        subst j3
        split at j4
        ·rename_i t1 hgr
         simp only[Rd.run,Option.some.injEq] at j4
         subst j4
         refine lend_done (me:=0) (dd:=dd) (ro:=ro) (cells':=ro.cells.set c0 t1) rfl rfl (by simp[setCells,setCell,g1]) ?_
         refine lend_root (uargs:=u::us') (x:=x) (row:=[.own e0 es0]) (row':=[.own e' es']) (us:=[u]) (new:=newDeep ro.cells c0 i rest t0 c) h.heap g1 (fun f0 I hL hu0=>?_) callee ?_
         ·refine lendT_deep hL hu0 g3 hd htt fun vsp ad hloc=>?_
          have h0:=hx0.2 ro g1 g2
          obtain⟨u0,fo,fr0,v0,q0,kk0,rb0⟩:=okL_focus hL g3
          have hl2:loc (szOf E) w.heap ro.cells (gh dd).vals ((⟨szOf E,w.heap,Inow z w (FS++[]),rt,gh⟩:Cx).addr dd) ((c0,i)::rest)=some (cp,vsp,ad):=by
           rw[loc_head (ad':=none) g3 v0]
           rw[loc_head (ad':=none) g3 v0] at hloc
           exact hloc
          exact h0 cp vsp ad hl2 e0 es0 htt rfl
         ·simp only[newDeep,hgr]
        ·simp[Rd.run] at j4
       ·simp[Rd.run] at g4
      ·simp[Rd.run] at g4
    ·simp[Rd.run] at h6
   | _=>simp[Rd.run] at h6
  ·simp[Rd.run] at he2
 ·simp[Rd.run] at he2
theorem lendMany_ok (h:Here E z n tick fr rt gh w FS a) (hcall:∀ f args r,call f args=some r→Sound E f args r) {f:FuncId} (hnl:lends (E.mode f)=true) {cs xs:List T} {us:List Value}
  (he:(lendMany call f cs xs).run rt=some e) (hk:All2 (okX ⟨szOf E,w.heap,Inow z w (FS++[]),rt,gh⟩) (.agg cs::xs) us):
  Calls E.P f us.toArray w fun | .returned u,w'=>Done E z tick rt (rtOf tick rt d e) gh w FS e.val u w' | _,_=>False:=by
 unfold lendMany at he
 obtain⟨⟨dd,ver,k⟩,hfirst,he1⟩:=run_bind he
 obtain⟨ro,g1,g2,he2⟩:=run_root he1
 obtain⟨row,h3,he3⟩:=run_bind he2
 obtain⟨ys,h4,he4⟩:=run_bind he3
 have hrow:=run_of h3
 have hys:=run_of h4
 obtain⟨u,us',rfl,k1,k2⟩:=hk
 have hus:=valsOf_X hys k2
 subst hus
 obtain⟨vs,rfl,k3⟩:=k1
 split at he4
 ·rename_i r hr
  split at he4
  ·rename_i x row' hret houts
   split at he4
   ·rename_i hshape
    simp only[Rd.run,Option.some.injEq] at he4
    subst he4
    obtain⟨n1,n2,n3⟩:=lendRow_length hrow
    simp only[List.length_drop] at n2
    have hlen:row'.length=row.length:=by simpa using congrArg List.length hshape
    have hlc:row'.all lentCell=true:=(hcall f _ r hr).cells hnl 0 row' (by rw[houts];simp)
    refine lend_done (me:=0) (dd:=dd) (ro:=ro) (cells':=putCells k row' ro.cells) rfl rfl (putRow_eq h.heap.srt g1 (by cases cs with | nil=>simp[firstRef,Rd.of,Rd.run] at hfirst | cons _ _=>simp only[List.length_cons] at n1 n2;omega)) ?_
    refine lend_root (uargs:=.agg vs.toArray::us') (x:=x) (row:=row) (row':=row') (us:=vs) (new:=fun row'=>if row'.map isOwn=row.map isOwn∧row'.all lentCell=true then some (putCells k row' ro.cells) else none) h.heap g1 (fun f0 I hL _=>?_) (fun z' hw hu hlt hok=>?_) (if_pos ⟨hshape,hlc⟩)
    ·exact lendT_row (j:=k) hL hrow (LV_of (x:=⟨szOf E,w.heap,Inow z w (FS++[]),rt,gh⟩) g1 g2 k3 hrow)
    ·subst hw
     obtain⟨x2,row2,q1,q2,q3⟩:=(hcall f _ r hr).lend hnl z' _ us' _ _ vs rfl (.row row vs) n3 hu hlt hok
     rw[hret] at q1
     rw[houts] at q2
     simp only[T.v.injEq,List.cons.injEq,Prod.mk.injEq,and_true,true_and] at q1 q2
     subst q1;subst q2
     exact Calls.mono' q3 fun _ _ hx=>hx
   ·simp[Rd.run] at he4
  ·simp[Rd.run] at he4
 ·simp[Rd.run] at he4
theorem lend_ok (h:Here E z n tick fr rt gh w FS a) (hcall:∀ f args r,call f args=some r→Sound E f args r) {f:FuncId} (hnl:lends (E.mode f)=true) {ts:List T} {us:List Value}
  (he:(lendEff call f ts).run rt=some e) (hk:All2 (okX ⟨szOf E,w.heap,Inow z w (FS++[]),rt,gh⟩) ts us):
  Calls E.P f us.toArray w fun | .returned u,w'=>Done E z tick rt (rtOf tick rt d e) gh w FS e.val u w' | _,_=>False:=by
 unfold lendEff at he
 split at he
 ·exact lendOne_ok h hcall hnl he hk
 ·exact lendMany_ok h hcall hnl he hk
 ·simp[Rd.run] at he
theorem elem_ptr {d' ver c nn m:Nat} {path:List (Nat×Nat)} {u:Value} {e':TypeId} {es:List (List T)} (h:Here E z n tick fr rt gh w FS a) (k1:okRef ⟨szOf E,w.heap,Inow z w (FS++[]),rt,gh⟩ d' ver path c nn u)
  (h6:(TM.content d' ver path c nn).run rt=some (e',es)) (hm:m<es.length):
  ∃ b o' cap,u=.slice (some ⟨b,o',none⟩) es.length cap∧okPtr ⟨szOf E,w.heap,Inow z w (FS++[]),rt,gh⟩ d' ver (path++[(c,m)]) 0 (.pointer (some ⟨b,o'+m*szOf E e',none⟩)):=by
 obtain⟨f,r1,r2,r3⟩:=h.heap.content k1 h6
 have hg:es[m]?=some es[m]:=by simp[hm]
 obtain⟨b,o',cap,arr,elt,fz,fs',v1,v2,v3,v4,v5,v6,v7⟩:=own_some r1 hg
 refine⟨b,o',cap,v1,okPtr_of (by simp) ?_⟩
 intro r g1 g2 cs vs b2 o2 g3
 have g3:loc (szOf E) w.heap r.cells (gh d').vals ((gh d').blk.map fun b=>(b.b,b.pre.length)) (path++[(c,m)])=some (cs,vs,some (b2,o2)):=g3
 rw[loc_snoc] at g3
 obtain⟨⟨cs0,vs0,ad0⟩,g4,g5⟩:=Option.bind_eq_some_iff.1 g3
 simp only[loc] at g5
 split at g5
 ·rename_i e2 es2 a2 _ _ g6 g7
  split at g5
  ·rename_i cs' arr2 _ _ g8 g9
   simp only[Option.some.injEq,Prod.mk.injEq] at g5
   obtain⟨rfl,_,g10,g11⟩:=g5
   obtain⟨r',m1,m2,m3⟩:=content_tree h6
   rw[g1] at m1
   simp only[Option.some.injEq] at m1;subst m1
   obtain⟨m4,m5⟩:=m3 cs0 (loc_descend g4)
   rw[m4] at g6
   simp only[Option.some.injEq,T.own.injEq] at g6
   obtain⟨rfl,rfl⟩:=g6
   have m6:=k1 r g1 g2 cs0 vs0 ad0 g4 e' es m4 m5
   rw[g7,v1] at m6
   simp only[Option.some.injEq,Value.slice.injEq] at m6
   obtain⟨rfl,_⟩:=m6
   dsimp only at g10 g11
   subst g10;subst g11
   rfl
  ·simp at g5
 ·simp at g5
theorem viewCall_ok (h:Here E z n tick fr rt gh w FS a) {f:FuncId} {v:View} {keep:Bool} (hv:ViewOk E f v) {ts:List T} {us:List Value}
  (he:(viewEff call keep tick f v ts).run rt=some e) (hk:All2 (okX ⟨szOf E,w.heap,Inow z w (FS++[]),rt,gh⟩) ts us) (hs:∀ t,t∈ts→stX (Stm tick rt) t):
  Calls E.P f us.toArray w fun | .returned u,w'=>Done E z tick rt (rtOf tick rt d e) gh w FS e.val u w' | _,_=>False:=by
 unfold viewEff at he
 split at he
 ·split at he
  ·rename_i d' ver path c nn t1 t2 k xs
   obtain⟨⟨e',es⟩,h6,he6⟩:=run_bind he
   split at he6
   ·rename_i hc
    obtain⟨c1,c2,c3,c4⟩:=hc
    dsimp only at c3
    subst c3
    obtain⟨cs,h7,he7⟩:=run_bind he6
    split at he7
    ·rename_i e2 es2
     obtain⟨u1,us1,rfl,k1,u2,us2,rfl,k2,rfl⟩:=hk
     obtain⟨l1,rfl,k3⟩:=k1
     obtain⟨a1,l2,rfl,⟨k4,k5⟩,a2,l3,rfl,_,a3,l4,rfl,_,rfl⟩:=k3
     obtain⟨l5,rfl,k6⟩:=k2
     obtain⟨a4,l6,rfl,k7,k8⟩:=k6
     have k7:okV (szOf E) w.heap (Inow z w (FS++[])) (.v (.int .i64 k)) a4 []:=k7
     simp only[okV] at k7
     obtain⟨rfl,_⟩:=k7
     have hlen:es.length=nn:=(h.heap.content k5 h6).choose_spec.2.1
     obtain⟨m,rfl⟩:∃ m:Nat,k=m:=⟨k.toNat,by omega⟩
     have hm:m<es.length:=by omega
     simp only[Int.toNat_natCast] at h7 he7
     obtain⟨b,o',cap,rfl,kp⟩:=elem_ptr h k5 h6 hm
     obtain⟨ro,cs0,b3,o3,arr,el,fz,f3,R,q1,q2⟩:=h.heap.row kp h7 (.inl (by omega))
     have hval:=R.val
     simp only[Value.pointer.injEq,Option.some.injEq,Addr.mk.injEq,Nat.add_zero] at hval
     obtain⟨rfl,ho,_⟩:=hval
     have hst:Stm tick rt d' ver:=by
      have h9:stX (Stm tick rt) (T.agg [T.ref d' ver path c nn,t1,t2]):=hs _ (by simp)
      exact h9 (T.ref d' ver path c nn) (by simp)
     have hfit:=R.fits
     have hal:arr.toList.length=arr.size:=Array.length_toList
     have hcell0:cs0[0]?=some (.own e2 es2):=by
      rw[List.drop_zero] at q2
      have:(cs0.take 1)[0]?=some (T.own e2 es2):=by rw[←q2];rfl
      rw[List.getElem?_take] at this
      simpa using this
     have hlt:o3<arr.size:=by omega
     have hv0:((arr.toList.drop o3).take cs0.length)[0]?=some arr[o3]:=by
      rw[List.getElem?_take,if_pos (by omega),List.getElem?_drop,Nat.add_zero,Array.getElem?_toList,Array.getElem?_eq_getElem hlt]
     have href:=okRef_of_row h.heap R 0 e2 es2 arr[o3] hcell0 hv0
     have hcellw:w.cell? ⟨b,o3,none⟩=some arr[o3]:=cell_of R.heap (Array.getElem?_eq_getElem hlt)
     have hslice:∃ ad cap,arr[o3]=.slice ad es2.length cap:=by
      obtain⟨f',rr,y1,y2⟩:=okL_sub 0 1 R.ok (by omega)
      rw[←q2] at y2
      simp only[okL] at y2
      obtain⟨u9,us9,f9,f8,y3,_,y4,_⟩:=y2
      have:(((arr.toList.drop o3).take cs0.length).drop 0).take 1=[arr[o3]]:=by
       rw[List.drop_zero,List.take_take,Nat.min_eq_left (by omega)]
       rw[List.drop_eq_getElem_cons (by omega)]
       simp
      rw[this] at y3
      simp only[List.cons.injEq] at y3
      obtain⟨rfl,_⟩:=y3
      simp only[okV] at y4
      rcases y4 with⟨rfl,_,ad,y5⟩ | ⟨b9,o9,cap9,arr9,el9,fz9,fs9,y5,_⟩
      ·exact⟨ad,0,y5⟩
      ·exact⟨_,cap9,y5⟩
     obtain⟨hz1,hcalls⟩:=hv
     rw[hz1,Nat.mul_one] at ho
     have hl6:l6.length=5:=by rw[All2.len k8];exact c4
     refine Calls.mono' (hcalls w b o' es.length cap m a2 a3 l6 arr[o3] hl6 hm (by rw[ho];exact hcellw)) fun u w' ⟨hu,hfr⟩=>?_
     subst hu
     have fr:=hfr ⟨w,[],Inow z w (FS++[]),fun b hb=>⟨(h.heap.imm hb).1,by simp⟩,h.heap.gok⟩ rfl rfl
     obtain⟨r3,kp3,_⟩:=h.heap.after (X':=[]) rfl (fun b hb=>by simp at hb) fr (fun x=>by simp) (fun b hb=>by simp at hb)
     have kp4:=(h.heap.keeps_refl (Stm tick rt) fun b hb=>hb).trans kp3 fun _ _ _=>trivial
     split at he7
     ·obtain⟨hv2,h8,he8⟩:=run_bind he7
      simp only[Rd.run,Option.some.injEq] at he8
      subst he8
      obtain⟨r',s1,s2,s3⟩:=stamp_ok h.vers hst h8
      rw[R.root] at s1
      simp only[Option.some.injEq] at s1;subst s1;subst s2
      have hx:okX ⟨szOf E,w.heap,Inow z w (FS++[]),rt,gh⟩ (.ref d' ro.hver (path++[(c,m)]) 0 es2.length) arr[o3]:=⟨hslice,href⟩
      exact⟨gh,FS,r3,kp4,kp4.x (t:=.ref d' ro.hver (path++[(c,m)]) 0 es2.length) s3 hx,s3⟩
     ·obtain⟨r9,y1,y2,y3⟩:=run_root he7
      simp only[Rd.run,Option.some.injEq] at y3
      subst y3
      have hx:okX ⟨szOf E,w.heap,Inow z w (FS++[]),rt,gh⟩ (.ref d' ver [] r9.cells.length es2.length) arr[o3]:=by
       refine⟨hslice,fun r hr _ cs vs ad hloc e8 es8 hce _=>?_⟩
       simp only[loc,Option.some.injEq,Prod.mk.injEq] at hloc
       obtain⟨rfl,_,_⟩:=hloc
       have hr:lk rt d'=some r:=hr
       rw[y1] at hr
       simp only[Option.some.injEq] at hr
       subst hr
       simp at hce
      exact⟨gh,FS,r3,kp4,kp4.x (t:=.ref d' ver [] r9.cells.length es2.length) hst hx,hst⟩
    ·simp[Rd.run] at he7
   ·simp[Rd.run] at he6
  ·simp[Rd.run] at he
 ·simp[Rd.run] at he
theorem callX_ok (ht:TiOk E) (h:Here E z n tick fr rt gh w FS a) (hcall:∀ f args r,call f args=some r→Sound E f args r) {me f:FuncId} {tys:List TypeId} {ts:List T} {us:List Value}
  (he:(callEff E call me d tick f tys ts).run rt=some e) (hd:EffOk tick rt d e) (hk:All2 (okX ⟨szOf E,w.heap,Inow z w (FS++[]),rt,gh⟩) ts us) (hs:∀ t,t∈ts→stX (Stm tick rt) t):
  Calls E.P f us.toArray w fun | .returned u,w'=>Done E z tick rt (rtOf tick rt d e) gh w FS e.val u w' | _,_=>False:=by
 unfold callEff at he
 split at he
 ·rename_i v hv
  have hsnd:∃ args r,call f args=some r:=by
   unfold viewEff at he
   split at he
   ·rename_i r hr;exact⟨_,r,hr⟩
   ·simp[Rd.run] at he
  obtain⟨args,r,hr⟩:=hsnd
  exact viewCall_ok h ((hcall f args r hr).view v (viewOf_some hv)) he hk hs
 unfold callEff1 at he
 split at he
 ·rename_i hl;exact lend_ok h hcall hl he hk
 ·rename_i hl
  split at he
  ·exact callFar_ok ht h hcall (by simpa using hl) he hd hk hs
  ·exact call_ok ht h hcall (by simpa using hl) he hd hk hs
end call
def Enters (E : Env) (f : FuncId) : Prop := ∃ fn, E.P.funcs[f]? = some fn ∧ (fn.name == "runtime.NumGoroutine") = false ∧ fn.body.isNone = false
section call
variable {E:Env} {z:Zn} {n tick:Nat} {fr:List (Nat×T)} {rt:List (Nat×Root)} {gh:Nat→G} {w:World} {FS:List Nat} {a:Act}
variable {call:FuncId→List Arg→Option Res} {me:FuncId} {d:Nat} {ty0:TypeId} {e:Eff} {o:Oper}
theorem run_callFunc_enter {f:FuncId} (h:Enters E f) (args:Array Value):(callFunc f args).run E.P w=.ok (.enter f args) w:=by
 obtain⟨fn,h1,h2,h3⟩:=h
 have h4 : ¬ (fn.name = "runtime.NumGoroutine") := by simpa using h2
 have h5:¬ (fn.body=none):=by cases hb:fn.body<;>simp_all
 simp[callFunc,program,Sem.run,h1,h4,h5]
theorem lendEff_called {f:FuncId} {ts:List T} (he:(lendEff call f ts).run rt=some e):∃ args r,call f args=some r:=by
 unfold lendEff at he
 split at he
 ·unfold lendOne at he
  obtain⟨_,_,he1⟩:=run_bind he
  obtain⟨_,_,he2⟩:=run_bind he1
  split at he2
  ·rename_i r hr;exact⟨_,r,hr⟩
  ·simp[Rd.run] at he2
 ·unfold lendMany at he
  obtain⟨_,_,he1⟩:=run_bind he
  obtain⟨_,_,_,he2⟩:=run_root he1
  obtain⟨_,_,he3⟩:=run_bind he2
  obtain⟨_,_,he4⟩:=run_bind he3
  split at he4
  ·rename_i r hr;exact⟨_,r,hr⟩
  ·simp[Rd.run] at he4
 ·simp[Rd.run] at he
theorem callEff_called {f:FuncId} {tys:List TypeId} {ts:List T} (he:(callEff E call me d tick f tys ts).run rt=some e):∃ args r,call f args=some r:=by
 unfold callEff at he
 split at he
 ·rename_i v _
  unfold viewEff at he
  split at he
  ·rename_i r hr;exact⟨_,r,hr⟩
  ·simp[Rd.run] at he
 unfold callEff1 at he
 split at he
 ·exact lendEff_called he
 split at he
 ·unfold callFar at he
  obtain⟨l,h1,he1⟩:=run_bind he
  split at he1
  ·split at he1
   ·simp[Rd.run] at he1
   ·split at he1
    ·rename_i r hr
     exact⟨_,r,hr⟩
    ·simp[Rd.run] at he1
  ·simp[Rd.run] at he1
 unfold callEff0 at he
 obtain⟨l,h1,he1⟩:=run_bind he
 split at he1
 ·split at he1
  ·rename_i r hr
   exact⟨_,r,hr⟩
  ·simp[Rd.run] at he1
 ·simp[Rd.run] at he1
theorem op_call {c:Call} {g:Operand} (ht:TiOk E) (h:Here E z n tick fr rt gh w FS a) (hcall:∀ f args r,call f args=some r→Sound E f args r∧Enters E f) (ho:o.op=.call c) (hc:c.callee=.value g) (hd:EffOk tick rt d e)
  (he:(evOp E call me (St.val fr) tick d ty0 (.call c)).run rt=some e):
  Says E z tick rt gh w FS d e (execOp a.eval o):=by
 simp only[evOp,hc] at he
 obtain⟨tg,h1,he1⟩:=run_bind he
 obtain⟨ts,h2,he2⟩:=run_bind he1
 clear he he1
 have hg:=run_of h1
 clear h1
 obtain⟨k1,k2⟩:=h.frame.val hg
 obtain⟨a1,a2⟩:=args_ok h.frame h2
 have fin:∀ {f:FuncId} {caps:List Value} {tcaps:List T},a.eval g=.func (.func f) #[] caps.toArray→All2 (okX ⟨szOf E,w.heap,Inow z w (FS++[]),rt,gh⟩) tcaps caps→(∀ t,t∈tcaps→stX (Stm tick rt) t)→
   (callEff E call me d tick f c.argTypes.toList (ts++tcaps)).run rt=some e→Says E z tick rt gh w FS d e (execOp a.eval o):=by
  intro f caps tcaps hv hk hs hce
  obtain⟨args,r,hr⟩:=callEff_called hce
  have hrun:(execOp a.eval o).run E.P w=.ok (.enter f (c.args.map a.eval++caps.toArray)) w:=by
   simp only[execOp,ho,resolve,hc,hv,Deferred.ofValue,Sem.run_bind,Sem.run_pure,Result.andThen_ok,invoke,Array.empty_append]
   exact run_callFunc_enter (hcall f args r hr).2 _
  unfold Says
  rw[hrun]
  have hres:=callX_ok (us:=c.args.toList.map a.eval++caps) ht h (fun f args r hr=>(hcall f args r hr).1) hce hd (a1.append hk) (fun t hm=>by
   rcases List.mem_append.1 hm with hm | hm
   ·exact a2 t hm
   ·exact hs t hm)
  have harr:(c.args.toList.map a.eval++caps).toArray=c.args.map a.eval++caps.toArray:=by
   apply Array.ext'
   simp
  rw[harr] at hres
  exact Calls.mono hres fun x w' hx=>by cases x<;>exact hx
 split at he2
 ·rename_i f first caps
  split at he2
  ·rename_i hcond
   simp only[Bool.and_eq_true,Array.isEmpty_iff] at hcond
   obtain⟨rfl,rfl⟩:=hcond
   exact fin (caps:=[]) (tcaps:=[]) (okX_v.1 k1) rfl (fun t hm=>by simp at hm) (by rw[List.append_nil];exact he2)
  ·simp[Rd.run] at he2
 ·rename_i f caps
  obtain⟨us,hu,hk⟩:=k1
  have:∀ {cs:List T} {us:List Value},All2 (okX0 ⟨szOf E,w.heap,Inow z w (FS++[]),rt,gh⟩) cs us→(∀ t,t∈cs→st0 (Stm tick rt) t)→All2 (okX ⟨szOf E,w.heap,Inow z w (FS++[]),rt,gh⟩) cs us∧∀ t,t∈cs→stX (Stm tick rt) t:=by
   intro cs
   induction cs with
   | nil=>intro us h _;exact⟨h,fun t ht=>by simp at ht⟩
   | cons c cs ih=>
    intro us h hs
    obtain⟨b,bs,rfl,q1,q2⟩:=h
    obtain⟨m1,m2⟩:=lift02 q1 (hs c (by simp))
    obtain⟨m3,m4⟩:=ih q2 fun t ht=>hs t (by simp[ht])
    refine⟨⟨b,bs,rfl,m1,m3⟩,fun t ht=>?_⟩
    rcases List.mem_cons.1 ht with rfl | ht
    ·exact m2
    ·exact m4 t ht
  obtain⟨m1,m2⟩:=this hk k2
  exact fin hu m1 m2 he2
 ·simp[Rd.run] at he2
end call
section all
variable {E:Env} {z:Zn} {n tick:Nat} {fr:List (Nat×T)} {rt:List (Nat×Root)} {gh:Nat→G} {w:World} {FS:List Nat} {a:Act}
variable {call:FuncId→List Arg→Option Res} {me:FuncId} {d:Nat} {e:Eff} {o:Oper}
theorem evOp_ok (ht:TiOk E) (h:Here E z n tick fr rt gh w FS a) (hcall:∀ f args r,call f args=some r→Sound E f args r∧Enters E f) (hd:EffOk tick rt d e)
  (he:(evOp E call me (St.val fr) tick d o.type o.op).run rt=some e):Says E z tick rt gh w FS d e (execOp a.eval o):=by
 cases hop:o.op<;>rw[hop] at he
 case move x=>exact op_move h hop he
 case assign x=>exact op_assign h hop hd he
 case pick c x y=>exact op_pick h hop he
 case alloc ty=>exact op_alloc ht h hop hd he
 case box ty x=>exact op_box h hop hd he
 case build ty ps=>exact op_build ht h hop hd he
 case buildSlice ty k ps=>exact op_buildSlice ht h hop hd he
 case load ty x=>exact op_load ht h hop he
 case store ty p x=>exact op_store ht h hop hd he
 case nilCheck x=>exact op_nilCheck h hop he
 case binOp op ty x y cs=>exact op_binOp ht h hop he
 case unOp op ty x=>exact op_unOp h hop he
 case makeSlice ty x y=>exact op_makeSlice ht h hop hd he
 case fieldAddr ty x f=>exact op_fieldAddr ht h hop he
 case field ty x f=>exact op_field ht h hop he
 case indexAddr ty x y=>exact op_indexAddr ht h hop he
 case index ty x y=>exact op_index h hop he
 case extract x k=>exact op_extract h hop he
 case slice ty x lo hi mx=>
  cases hg:globOf E ty x lo hi mx with
  | some t=>exact op_slice_glob ht h hop he hg
  | none=>
  cases hm:mx with
  | none=>
   subst hm
   by_cases hr:∃ d' ver path c n,St.val fr x=some (.ref d' ver path c n)
   ·obtain⟨d',ver,path,c,n,hr⟩:=hr
    exact op_slice_take ht h hop hd he hg hr
   ·exact op_slice_quiet ht h hop he rfl hg fun d' ver path c n h1=>hr ⟨d',ver,path,c,n,h1⟩
  | some m=>exact op_slice_clip ht h hop hd he hg (by rw[hm];simp)
 case convert src dst x=>
  by_cases hs:∃ s i el,St.val fr x=some (.v (.string s))∧E.ti dst=some i∧i.elem=some el
  ·obtain⟨s,i,el,h1,h2,h3⟩:=hs
   exact op_bytes ht h hop hd he h1 h2 h3
  ·exact op_convert_quiet h hop he fun s h1 i h2=>by
    cases h3:i.elem with
    | none=>rfl
    | some el=>exact absurd ⟨s,i,el,h1,h2,h3⟩ hs
 case makeFunc fn first caps=>
  cases fn with
  | func f=>exact op_makeFunc h hop he
  | _=>simp[evOp,Rd.run] at he
 case call c=>
  cases hc:c.callee with
  | value g=>exact op_call ht h hcall hop hc hd he
  | invoke r m=>simp[evOp,hc,Rd.run] at he
  | builtin b=>
   cases b
   case len=>exact op_len ht h hop hc he
   case append=>exact op_append ht h hop hc hd he
   case cap=>exact op_minmax (f:=Builtin.cap_) h hop hc (fun _ _ _=>rfl) (by simpa only[evOp,hc] using he)
   case min=>exact op_minmax (f:=Builtin.min_) h hop hc (fun _ _ _=>rfl) (by simpa only[evOp,hc] using he)
   case max=>exact op_minmax (f:=Builtin.max_) h hop hc (fun _ _ _=>rfl) (by simpa only[evOp,hc] using he)
   all_goals simp[evOp,hc,Rd.run] at he
 all_goals simp[evOp,Rd.run] at he
end all
theorem Vers_setCell {tick rt s} (h:Vers tick rt):Vers tick (setCell tick rt s):=by
 intro d r hr
 unfold setCell at hr
 cases hs:lk rt s.d with
 | none=>rw[hs] at hr;exact h d r hr
 | some r1=>
  rw[hs] at hr
  by_cases hd:d=s.d
  ·subst hd
   rw[lk_up_self] at hr
   simp only[Option.some.injEq] at hr;subst hr
   have:=h _ _ hs
   show r1.ver≤(if s.hdr then nxt tick r1 else r1.hver)∧(if s.hdr then nxt tick r1 else r1.hver)≤tick+1∧r1.ver≤tick
   unfold nxt
   split<;>(try split)<;>omega
  ·rw[lk_up_ne _ _ _ _ hd] at hr
   exact h d r hr
theorem Vers_setCells {tick}:∀ {ss rt},Vers tick rt→Vers tick (setCells tick rt ss)
 | [],_,h=>h
 | s::ss,rt,h=>by simp only[setCells];exact Vers_setCells (Vers_setCell h)
theorem Vers_up {tick rt d r} (h:Vers tick rt) (h1:r.ver=tick) (h2:r.hver=tick):Vers tick (up rt d r):=by
 intro d' r' hr
 by_cases hd:d'=d
 ·subst hd
  rw[lk_up_self] at hr
  simp only[Option.some.injEq] at hr;subst hr
  omega
 ·rw[lk_up_ne _ _ _ _ hd] at hr
  exact h _ _ hr
structure Lnt where
 l:List (T×Value)
 c0:Nat→List T
 v0:Nat→List Value
 b0:Nat→Option Blk
def Spine (sz:TypeId→Nat) (h h0:Array Obj) (rt:List (Nat×Root)) (gh:Nat→G) (L:Lnt):Prop:=
 (∀ d r,lk rt d=some r→r.hver=0→skL sz h h0 r.cells (L.c0 d) (gh d).vals (L.v0 d))∧∀ d r,lk rt d=some r→r.ver=0→(gh d).blk=L.b0 d
structure At (E:Env) (z:Zn) (L:Lnt) (st:St) (gh:Nat→G) (w:World) (FS:List Nat) (a:Act):Prop extends Here E z st.n st.tick st.fr st.rt gh w FS a where
 srt:Srt st.fr
 lent:∀ p,p∈L.l→okX ⟨szOf E,w.heap,Inow z w (FS++[]),st.rt,gh⟩ p.1 p.2∧stX (Stm st.tick st.rt) p.1
 shape:∀ p,p∈L.l→∃ i,p.1=.ptr i 0 [] 0
 tk:0<st.tick
 spine:Spine (szOf E) w.heap z.w0.heap st.rt gh L
theorem spine_step {sz:TypeId→Nat} {h h' h0:Array Obj} {I I':Nat→Prop} {rt rt':List (Nat×Root)} {gh gh':Nat→G} {tick:Nat} {L:Lnt} (kp:Keeps ⟨sz,h,I,rt,gh⟩ ⟨sz,h',I',rt',gh'⟩ (Stm tick rt)) (ht:0<tick)
  (hs:Spine sz h h0 rt gh L):Spine sz h' h0 rt' gh' L:=by
 refine⟨fun d r hr hv=>?_,fun d r hr hv=>?_⟩
 ·obtain⟨r0,g1,g2,_,g4⟩:=kp.hdr d 0 r ⟨by omega,fun he=>by omega⟩ hr hv
  exact skL_trans g4 (hs.1 d r0 g1 g2)
 ·obtain⟨r0,g1,g2,g3⟩:=kp.top d 0 r ⟨by omega,fun he=>by omega⟩ hr hv
  exact g3.trans (hs.2 d r0 g1 g2)
theorem Act.put_size {a:Act} {dst:Option Tmp} {u:Value}:(a.put dst u).tmps.size=a.tmps.size:=by
 cases dst<;>simp[Act.put]
theorem Act.put_def {a:Act} {dst:Option Tmp} {u:Value}:(a.put dst u).defers=a.defers:=by
 cases dst<;>rfl
theorem FRel.put {x S n fr a} (f:FRel x S n fr a) {d:Nat} {t:T} {u:Value} (hd:d<n) (h1:okX x t u) (h2:stX S t):FRel x S n (up fr d t) (a.put (some d) u):=by
 refine⟨by rw[Act.put_size];exact f.size,by rw[Act.put_def];exact f.defers,fun d' t' hl=>?_⟩
 by_cases hdd:d'=d
 ·subst hdd
  rw[lk_up_self] at hl
  simp only[Option.some.injEq] at hl;subst hl
  refine⟨u,?_,h1,h2⟩
  simp only[Act.put]
  rw[Array.getElem?_setIfInBounds_self_of_lt (by rw[f.size];exact hd)]
 ·rw[lk_up_ne _ _ _ _ hdd] at hl
  obtain⟨u',g1,g2⟩:=f.tmp d' t' hl
  refine⟨u',?_,g2⟩
  simp only[Act.put]
  rw[Array.getElem?_setIfInBounds_ne (Ne.symm hdd)]
  exact g1
section one
variable {E:Env} {z:Zn} {L:Lnt} {st st':St} {gh:Nat→G} {w:World} {FS:List Nat} {a:Act}
theorem apply_okP {Q:(Nat→G)→Prop} (h:At E z L st gh w FS a) {dst:Option Tmp} {e:Eff} {u:Value} {w':World} (hap:st.apply dst e=some st')
  (hd:DoneP Q E z st.tick st.rt (rtOf st.tick st.rt (dst.getD 0) e) gh w FS e.val u w'):∃ gh' FS',Q gh'∧At E z L st' gh' w' FS' (a.put dst u):=by
 obtain⟨gh',FS',hQ,d1,d2,d3,d4⟩:=hd
 unfold St.apply at hap
 split at hap
 ·cases dst with
  | none=>
   simp only at hap
   split at hap
   ·rename_i hn
    simp only[Option.some.injEq] at hap;subst hap
    have hr:rtOf st.tick st.rt (Option.getD none 0) e=setCells st.tick st.rt e.sets:=by
     unfold rtOf
     cases hr:e.root with
     | none=>rfl
     | some r=>rw[hr] at hn;simp at hn
    rw[hr] at d1 d2
    refine⟨gh',FS',hQ,⟨d1,Vers_setCells h.vers,⟨h.frame.size,h.frame.defers,fun d t hl=>?_⟩⟩,h.srt,fun p hp=>⟨d2.x (h.lent p hp).2 (h.lent p hp).1,stX_mono (fun a b=>Stm_sets a b) (h.lent p hp).2⟩,h.shape,h.tk,spine_step d2 h.tk h.spine⟩
    obtain⟨u',g1,g2,g3⟩:=h.frame.tmp d t hl
    exact⟨u',g1,d2.x g3 g2,stX_mono (fun a b=>Stm_sets a b) g3⟩
   ·simp at hap
  | some d=>
   simp only[Option.getD_some] at d1 d2 d3 d4
   simp only at hap
   split at hap
   ·rename_i hdn
    split at hap
    ·rename_i hr
     simp only[Option.some.injEq] at hap;subst hap
     simp only[rtOf,hr] at d1 d2 d3 d4
     refine⟨gh',FS',hQ,⟨d1,Vers_setCells h.vers,?_⟩,up_srt h.srt,fun p hp=>⟨d2.x (h.lent p hp).2 (h.lent p hp).1,stX_mono (fun a b=>Stm_sets a b) (h.lent p hp).2⟩,h.shape,h.tk,spine_step d2 h.tk h.spine⟩
     refine FRel.put (n:=st.n) (a:=a) ⟨h.frame.size,h.frame.defers,fun d' t hl=>?_⟩ hdn d3 d4
     obtain⟨u',g1,g2,g3⟩:=h.frame.tmp d' t hl
     exact⟨u',g1,d2.x g3 g2,stX_mono (fun a b=>Stm_sets a b) g3⟩
    ·rename_i r hr
     split at hap
     ·rename_i hnew
      simp only[Bool.and_eq_true,beq_iff_eq] at hnew
      obtain⟨_,v1,v2⟩:=hnew
      simp only[Option.some.injEq] at hap;subst hap
      simp only[rtOf,hr] at d1 d2 d3 d4
      refine⟨gh',FS',hQ,⟨d1,Vers_up (Vers_setCells h.vers) v1 v2,?_⟩,up_srt h.srt,fun p hp=>⟨d2.x (h.lent p hp).2 (h.lent p hp).1,stX_mono (fun a b hab=>(Stm_new v1).1 a b (Stm_sets a b hab)) (h.lent p hp).2⟩,h.shape,h.tk,spine_step d2 h.tk h.spine⟩
      refine FRel.put (n:=st.n) (a:=a) ⟨h.frame.size,h.frame.defers,fun d' t hl=>?_⟩ hdn d3 d4
      obtain⟨u',g1,g2,g3⟩:=h.frame.tmp d' t hl
      exact⟨u',g1,d2.x g3 g2,stX_mono (fun a b hab=>(Stm_new v1).1 a b (Stm_sets a b hab)) g3⟩
     ·simp at hap
   ·simp at hap
 ·simp at hap
theorem apply_ok (h:At E z L st gh w FS a) {dst:Option Tmp} {e:Eff} {u:Value} {w':World} (hap:st.apply dst e=some st')
  (hd:Done E z st.tick st.rt (rtOf st.tick st.rt (dst.getD 0) e) gh w FS e.val u w'):∃ gh' FS',At E z L st' gh' w' FS' (a.put dst u):=by
 obtain⟨gh',FS',hd⟩:=hd
 obtain⟨gh',FS',_,h1⟩:=apply_okP (Q:=fun _=>True) h hap ⟨gh',FS',trivial,hd⟩
 exact⟨gh',FS',h1⟩
theorem apply_eff {dst:Option Tmp} {e:Eff} (hap:st.apply dst e=some st'):EffOk st.tick st.rt (dst.getD 0) e:=by
 unfold St.apply at hap
 split at hap
 ·rename_i h12
  simp only[Bool.and_eq_true] at h12
  refine⟨h12.1,h12.2,fun r hr=>?_⟩
  cases dst with
  | none=>
   simp only at hap
   split at hap
   ·rename_i hn;rw[hr] at hn;simp at hn
   ·simp at hap
  | some d=>
   simp only at hap
   split at hap
   ·split at hap
    ·rename_i hr';rw[hr] at hr';simp at hr'
    ·split at hap
     ·rename_i hnew
      simp only[Bool.and_eq_true] at hnew
      exact hnew.1
     ·simp at hap
   ·simp at hap
 ·simp at hap
theorem wanted_ok {x:Cx} {S n} {ops:Array Oper} {o:Oper} {fr:List (Nat×T)} {b:Bool} (f:FRel x S n fr a) (h:wanted ops.toList fr o.guard=some b):
  Region.wanted o (yielded ops a.tmps)=b:=by
 unfold wanted at h
 unfold Region.wanted
 split at h
 ·rename_i hg;rw[hg];simpa using h
 ·rename_i j v hg
  rw[hg]
  show (yielded ops a.tmps j==some v)=b
  rw[Array.getElem?_toList] at h
  unfold yielded
  split at h
  ·simp at h
  ·rename_i t ht
   rw[ht]
   split at h
   ·rename_i val hl
    obtain⟨u,g1,g2,_⟩:=f.tmp t _ hl
    have:=okX_v.1 g2
    subst this
    simp only[Option.bind_some,g1]
    unfold wantV at h
    split at h
    ·rename_i b'
     simp only[Option.some.injEq] at h;subst h
     cases b'<;>cases v<;>rfl
    ·simp only[Option.some.injEq] at h;subst h
     rfl
    ·simp at h
   ·simp at h
theorem evOne_ok {call:FuncId→List Arg→Option Res} {me:FuncId} {ops:Array Oper} {i:Nat} {o:Oper} {K:Act→World→Prop} {Q:Exit→Act→World→Prop}
  (ht:TiOk E) (hcall:∀ f args r,call f args=some r→Sound E f args r∧Enters E f) (h:At E z L st gh w FS a)
  (he:evOne E call me ops.toList st o=some st') (hi:ops[i]?=some o) (hK:∀ gh' w' FS' a',At E z L st' gh' w' FS' a'→K a' w'):wpOp E.P ops Q i K a w:=by
 unfold evOne at he
 unfold wpOp
 rw[hi]
 simp only
 split at he
 ·rename_i b hw
  cases b with
  | true=>
   unfold gif at he
   rw[if_pos rfl] at he
   rw[wanted_ok h.frame hw,if_pos rfl]
   split at he
   ·rename_i e hev
    have hs:=evOp_ok ht h.toHere hcall (apply_eff he) hev
    refine .inl ?_
    unfold Oper.wp
    unfold Says Upon at hs
    revert hs
    generalize (execOp a.eval o).run E.P w=r
    intro hs
    split at hs
    ·rename_i u w'
     obtain⟨gh',FS',h1⟩:=apply_ok h he hs
     exact hK _ _ _ _ h1
    ·rename_i w'
     obtain⟨gh',FS',h1⟩:=apply_ok h he hs
     exact hK _ _ _ _ h1
    ·rename_i f args w'
     simp only[Oper.upon]
     refine Calls.mono hs fun x w'' hx=>?_
     cases x with
     | returned u=>
      obtain⟨gh',FS',h1⟩:=apply_ok h he hx
      exact hK _ _ _ _ h1
     | panicked c=>exact hx.elim
     | outgrown=>exact hx.elim
    ·exact hs.elim
   ·simp at he
  | false=>
   unfold gif at he
   rw[if_neg (by simp)] at he
   simp only at he
   rw[wanted_ok h.frame hw,if_neg (by simp)]
   obtain⟨gh',FS',h1⟩:=apply_ok h he h.toHere.done_val
   exact hK _ _ _ _ h1
 ·simp at he
theorem evOne_okS {call:FuncId→List Arg→Option Res} {me:FuncId} {ops:Array Oper} {i:Nat} {o:Oper} {K:Act→World→Prop} {Q:Exit→Act→World→Prop} {ty:TypeId} {p x:Operand}
  (ht:TiOk E) (h:At E z L st gh w FS a) (ho:o.op=.store ty p x) (hg:o.guard=none) (hdst:o.dst=none)
  (he:evOne E call me ops.toList st o=some st') (hi:ops[i]?=some o) (hK:∀ gh' w' FS' a',Stands st.fr p gh gh'→a'.tmps=a.tmps→At E z L st' gh' w' FS' a'→K a' w'):wpOp E.P ops Q i K a w:=by
 unfold evOne at he
 unfold wpOp
 rw[hi]
 simp only
 have hw:wanted ops.toList st.fr o.guard=some true:=by rw[hg];rfl
 rw[hw] at he
 simp only[gif,if_true] at he
 rw[wanted_ok h.frame hw,if_pos rfl]
 split at he
 ·rename_i e hev
  rw[ho] at hev
  obtain⟨w',hr,hd⟩:=op_storeP ht h.toHere ho (apply_eff he) hev
  obtain⟨gh',FS',hS,h1⟩:=apply_okP h he hd
  refine .inl ?_
  unfold Oper.wp
  rw[hr]
  exact hK _ _ _ _ hS (by rw[hdst];rfl) h1
 ·simp at he
end one
inductive Part {α:Type}:List (Nat×α)→List (Nat×α)→Prop
 | nil:Part [] []
 | drop {p l m}:Part l m→Part l (p::m)
 | keep {p l m}:Part l m→Part (p::l) (p::m)
theorem Part.rfl' {α:Type}:∀ (l:List (Nat×α)),Part l l
 | []=>.nil
 | _::l=>.keep (Part.rfl' l)
theorem Part.mem {α:Type} {l m:List (Nat×α)} (h:Part l m):∀ p,p∈l→p∈m:=by
 induction h with
 | nil=>intro p h;exact h
 | drop _ ih=>intro p h;exact List.mem_cons_of_mem _ (ih p h)
 | keep _ ih=>
  intro p h
  rcases List.mem_cons.1 h with rfl | h
  ·simp
  ·exact List.mem_cons_of_mem _ (ih p h)
theorem Part.trans {α:Type} {a b c:List (Nat×α)} (h1:Part a b) (h2:Part b c):Part a c:=by
 induction h2 generalizing a with
 | nil=>exact h1
 | drop _ ih=>exact .drop (ih h1)
 | keep _ ih=>
  cases h1 with
  | drop h1=>exact .drop (ih h1)
  | keep h1=>exact .keep (ih h1)
theorem Part.srt {α:Type} {l m:List (Nat×α)} (h:Part l m) (hs:Srt m):Srt l:=by
 induction h with
 | nil=>trivial
 | drop _ ih=>exact ih hs.2
 | keep h ih=>exact⟨fun q hq=>hs.1 q (h.mem q hq),ih hs.2⟩
theorem lk_of_mem {α:Type}:∀ {l:List (Nat×α)} {d:Nat} {x:α},Srt l→(d,x)∈l→lk l d=some x
 | [],d,x,_,h=>by simp at h
 | (k,y)::r,d,x,hs,h=>by
  simp only[lk]
  rcases List.mem_cons.1 h with h | h
  ·simp only[Prod.mk.injEq] at h;obtain⟨rfl,rfl⟩:=h;simp
  ·have:k<d:=hs.1 _ h
   rw[if_neg (by omega)]
   exact lk_of_mem hs.2 h
theorem Part.lk {α:Type} {l m:List (Nat×α)} (h:Part l m) (hs:Srt m) {d:Nat} {x:α} (hl:lk l d=some x):TM.lk m d=some x:=
 lk_of_mem hs (h.mem _ (lk_mem hl))
theorem only_part {α:Type} (ds:List Nat):∀ (l:List (Nat×α)),Part (only ds l) l
 | []=>.nil
 | (k,x)::r=>by
  simp only[only]
  split
  ·exact .keep (only_part ds r)
  ·exact .drop (only_part ds r)
theorem unspent_part:∀ (l:List (Nat×Root)),Part (unspent l) l
 | []=>.nil
 | (k,x)::r=>by
  simp only[unspent]
  split
  ·exact .drop (unspent_part r)
  ·exact .keep (unspent_part r)
theorem okRts_fewer {sz h I gh} {rt' rt:List (Nat×Root)} (hp:Part rt' rt):∀ {fs},okRts sz h I gh rt fs→∃ fs',okRts sz h I gh rt' fs'∧∀ x,fs'.count x≤fs.count x:=by
 induction hp with
 | nil=>intro fs h;exact⟨fs,h,fun _=>Nat.le_refl _⟩
 | drop _ ih=>
  intro fs h
  obtain⟨f1,f2,rfl,_,h2⟩:=h
  obtain⟨fs',g1,g2⟩:=ih h2
  refine⟨fs',g1,fun x=>?_⟩
  have:=g2 x
  simp only[List.count_append]
  omega
 | keep _ ih=>
  intro fs h
  obtain⟨f1,f2,rfl,h1,h2⟩:=h
  obtain⟨fs',g1,g2⟩:=ih h2
  refine⟨f1++fs',⟨f1,fs',rfl,h1,g1⟩,fun x=>?_⟩
  have:=g2 x
  simp only[List.count_append]
  omega
theorem stampOf_le (r:Root):stampOf r≤1:=by unfold stampOf;split<;>omega
theorem hvOf_le (r:Root):hvOf r≤1:=by unfold hvOf;split<;>omega
theorem lk_reRt:∀ {rt:List (Nat×Root)} {d:Nat} {r:Root},lk (reRt rt) d=some r→∃ r0,lk rt d=some r0∧r={ r0 with ver:=stampOf r0,hver:=hvOf r0 }
 | [],d,r,h=>by simp[reRt,lk] at h
 | (k,x)::rt,d,r,h=>by
  simp only[reRt,lk] at h ⊢
  split at h
  ·rename_i hk
   simp only[Option.some.injEq] at h
   exact⟨x,by rw[if_pos hk],h.symm⟩
  ·rename_i hk
   obtain⟨r0,h1,h2⟩:=lk_reRt h
   exact⟨r0,by rw[if_neg hk];exact h1,h2⟩
theorem lk_reFr {rt:List (Nat×Root)}:∀ {fr:List (Nat×T)} {d:Nat} {t:T},lk (reFr rt fr) d=some t→∃ t0,lk fr d=some t0∧t=reX rt t0
 | [],d,t,h=>by simp[reFr,lk] at h
 | (k,x)::fr,d,t,h=>by
  simp only[reFr,lk] at h ⊢
  split at h
  ·rename_i hk
   simp only[Option.some.injEq] at h
   exact⟨x,by rw[if_pos hk],h.symm⟩
  ·rename_i hk
   obtain⟨t0,h1,h2⟩:=lk_reFr h
   exact⟨t0,by rw[if_neg hk];exact h1,h2⟩
theorem reRt_mem:∀ {rt:List (Nat×Root)} {p},p∈reRt rt→∃ q,q∈rt∧q.1=p.1
 | [],p,h=>by simp[reRt] at h
 | (k,x)::rt,p,h=>by
  simp only[reRt] at h
  rcases List.mem_cons.1 h with rfl | h
  ·exact⟨(k,x),by simp,rfl⟩
  ·obtain⟨q,h1,h2⟩:=reRt_mem h
   exact⟨q,by simp[h1],h2⟩
theorem reRt_srt:∀ {rt:List (Nat×Root)},Srt rt→Srt (reRt rt)
 | [],h=>h
 | (k,x)::rt,h=>⟨fun p hp=>by obtain⟨q,h1,h2⟩:=reRt_mem hp;rw[←h2];exact h.1 q h1,reRt_srt h.2⟩
theorem reFr_mem {rt:List (Nat×Root)}:∀ {fr:List (Nat×T)} {p},p∈reFr rt fr→∃ q,q∈fr∧q.1=p.1
 | [],p,h=>by simp[reFr] at h
 | (k,x)::fr,p,h=>by
  simp only[reFr] at h
  rcases List.mem_cons.1 h with rfl | h
  ·exact⟨(k,x),by simp,rfl⟩
  ·obtain⟨q,h1,h2⟩:=reFr_mem h
   exact⟨q,by simp[h1],h2⟩
theorem reFr_srt {rt:List (Nat×Root)}:∀ {fr:List (Nat×T)},Srt fr→Srt (reFr rt fr)
 | [],h=>h
 | (k,x)::fr,h=>⟨fun p hp=>by obtain⟨q,h1,h2⟩:=reFr_mem hp;rw[←h2];exact h.1 q h1,reFr_srt h.2⟩
theorem reRt_ok {sz h I gh}:∀ {rt:List (Nat×Root)} {fs},okRts sz h I gh rt fs→okRts sz h I gh (reRt rt) fs
 | [],fs,hk=>hk
 | (k,x)::rt,fs,hk=>by
  obtain⟨f1,f2,rfl,h1,h2⟩:=hk
  exact⟨f1,f2,rfl,h1,reRt_ok h2⟩
section re
variable {sz:TypeId→Nat} {h:Array Obj} {I:Nat→Prop} {rt:List (Nat×Root)} {gh:Nat→G}
theorem stm_re {d s:Nat} (hs:s≤1):Stm 2 (reRt rt) d s:=⟨by omega,fun he=>by omega⟩
theorem re0_ok {t:T} {u:Value} (hk:okX0 ⟨sz,h,I,rt,gh⟩ t u):okX0 ⟨sz,h,I,reRt rt,gh⟩ (re0 rt t) u∧st0 (Stm 2 (reRt rt)) (re0 rt t):=by
 have dead:okX0 ⟨sz,h,I,reRt rt,gh⟩ .dead u∧st0 (Stm 2 (reRt rt)) .dead:=⟨okX0_dead,trivial⟩
 cases t with
 | ref d v p c n=>
  simp only[re0]
  split
  ·rename_i r hl
   split
   ·rename_i hv
    refine⟨⟨hk.1,fun r' hr' _=>?_⟩,stm_re (hvOf_le r)⟩
    obtain⟨r0,hl0,rfl⟩:=lk_reRt hr'
    rw[hl] at hl0;simp only[Option.some.injEq] at hl0;subst hl0
    exact hk.2 r hl hv
   ·exact dead
  ·exact dead
 | ptr d v p o=>
  cases p with
  | nil=>
   simp only[re0]
   split
   ·rename_i r hl
    split
    ·rename_i hv
     refine⟨⟨hk.1,fun r' hr' _=>?_⟩,stm_re (stampOf_le r)⟩
     obtain⟨r0,hl0,rfl⟩:=lk_reRt hr'
     rw[hl] at hl0;simp only[Option.some.injEq] at hl0;subst hl0
     exact hk.2 r hl hv
    ·exact dead
   ·exact dead
  | cons q qs=>
   simp only[re0]
   split
   ·rename_i r hl
    split
    ·rename_i hv
     refine⟨⟨hk.1,fun r' hr' _=>?_⟩,stm_re (hvOf_le r)⟩
     obtain⟨r0,hl0,rfl⟩:=lk_reRt hr'
     rw[hl] at hl0;simp only[Option.some.injEq] at hl0;subst hl0
     exact hk.2 r hl hv
    ·exact dead
   ·exact dead
 | bx d v p o=>
  obtain⟨b,arr,el,fz,u',q1,q2,q3,q4,q5,q6⟩:=hk
  simp only[re0]
  split
  ·rename_i s hs
   unfold reP at hs
   split at hs
   ·split at hs
    ·rename_i r hl
     split at hs
     ·rename_i hv
      simp only[Option.some.injEq] at hs;subst hs
      refine⟨⟨b,arr,el,fz,u',q1,q2,q3,q4,q5,fun r' hr' _=>?_⟩,stm_re (stampOf_le r)⟩
      obtain⟨r0,hl0,rfl⟩:=lk_reRt hr'
      rw[hl] at hl0;simp only[Option.some.injEq] at hl0;subst hl0
      exact q6 r hl hv
     ·simp at hs
    ·simp at hs
   ·split at hs
    ·rename_i r hl
     split at hs
     ·rename_i hv
      simp only[Option.some.injEq] at hs;subst hs
      refine⟨⟨b,arr,el,fz,u',q1,q2,q3,q4,q5,fun r' hr' _=>?_⟩,stm_re (hvOf_le r)⟩
      obtain⟨r0,hl0,rfl⟩:=lk_reRt hr'
      rw[hl] at hl0;simp only[Option.some.injEq] at hl0;subst hl0
      exact q6 r hl hv
     ·simp at hs
    ·simp at hs
  ·exact dead
 | _=>exact⟨hk,trivial⟩
theorem All2.map_l {α β γ:Type} {R:α→β→Prop} {Q:γ→β→Prop} {f:α→γ}:∀ {as:List α} {bs:List β},(∀ a b,a∈as→R a b→Q (f a) b)→All2 R as bs→All2 Q (as.map f) bs
 | [],bs,_,h=>h
 | a::as,bs,hi,h=>by
  obtain⟨b,bs',rfl,h1,h2⟩:=h
  exact⟨b,bs',rfl,hi a b (by simp) h1,All2.map_l (fun a b ha=>hi a b (by simp[ha])) h2⟩
theorem All2.left {α β:Type} {R:α→β→Prop}:∀ {as:List α} {bs:List β},All2 R as bs→∀ a,a∈as→∃ b,R a b
 | [],bs,_,a,h=>by simp at h
 | x::as,bs,hk,a,h=>by
  obtain⟨b,bs',rfl,h1,h2⟩:=hk
  rcases List.mem_cons.1 h with rfl | h
  ·exact⟨b,h1⟩
  ·exact All2.left h2 a h
theorem re1_ok {t:T} {u:Value} (hk:okX1 ⟨sz,h,I,rt,gh⟩ t u):okX1 ⟨sz,h,I,reRt rt,gh⟩ (re1 rt t) u∧st1 (Stm 2 (reRt rt)) (re1 rt t):=by
 have plain:∀ {t},(∀ cs,t≠.agg cs)→(∀ f cs,t≠.clo f cs)→okX0 ⟨sz,h,I,rt,gh⟩ t u→okX1 ⟨sz,h,I,reRt rt,gh⟩ (re0 rt t) u∧st1 (Stm 2 (reRt rt)) (re0 rt t):=fun _ _ hk=>by
  obtain⟨m1,m2⟩:=re0_ok hk
  exact lift01 m1 m2
 cases t with
 | agg cs=>
  obtain⟨us,h1,h2⟩:=hk
  refine⟨⟨us,h1,h2.map_l fun a b _ hr=>(re0_ok hr).1⟩,fun t ht=>?_⟩
  obtain⟨a,ha,rfl⟩:=List.mem_map.1 ht
  obtain⟨b,hb⟩:=h2.left a ha
  exact (re0_ok hb).2
 | clo f cs=>
  obtain⟨us,h1,h2⟩:=hk
  refine⟨⟨us,h1,h2.map_l fun a b _ hr=>(re0_ok hr).1⟩,fun t ht=>?_⟩
  obtain⟨a,ha,rfl⟩:=List.mem_map.1 ht
  obtain⟨b,hb⟩:=h2.left a ha
  exact (re0_ok hb).2
 | v a0=>exact plain (t:=.v a0) (by simp) (by simp) hk
 | tup a0=>exact plain (t:=.tup a0) (by simp) (by simp) hk
 | sl a0 a1=>exact plain (t:=.sl a0 a1) (by simp) (by simp) hk
 | own a0 a1=>exact plain (t:=.own a0 a1) (by simp) (by simp) hk
 | ref a0 a1 a2 a3 a4=>exact plain (t:=.ref a0 a1 a2 a3 a4) (by simp) (by simp) hk
 | ptr a0 a1 a2 a3=>exact plain (t:=.ptr a0 a1 a2 a3) (by simp) (by simp) hk
 | bx a0 a1 a2 a3=>exact plain (t:=.bx a0 a1 a2 a3) (by simp) (by simp) hk
 | ipt a0=>exact plain (t:=.ipt a0) (by simp) (by simp) hk
 | dead=>exact plain (t:=.dead) (by simp) (by simp) hk
 | hdr n=>exact plain (t:=.hdr n) (by simp) (by simp) hk
 | obx cs=>exact plain (t:=.obx cs) (by simp) (by simp) hk
theorem reX_ok {t:T} {u:Value} (hk:okX ⟨sz,h,I,rt,gh⟩ t u):okX ⟨sz,h,I,reRt rt,gh⟩ (reX rt t) u∧stX (Stm 2 (reRt rt)) (reX rt t):=by
 have plain:∀ {t},okX1 ⟨sz,h,I,rt,gh⟩ t u→okX ⟨sz,h,I,reRt rt,gh⟩ (re1 rt t) u∧stX (Stm 2 (reRt rt)) (re1 rt t):=fun hk=>by
  obtain⟨m1,m2⟩:=re1_ok hk
  exact lift12 m1 m2
 cases t with
 | tup cs=>
  obtain⟨us,h1,h2⟩:=hk
  refine⟨⟨us,h1,h2.map_l fun a b _ hr=>(re1_ok hr).1⟩,fun t ht=>?_⟩
  obtain⟨a,ha,rfl⟩:=List.mem_map.1 ht
  obtain⟨b,hb⟩:=h2.left a ha
  exact (re1_ok hb).2
 | v a0=>exact plain (t:=.v a0) hk
 | agg a0=>exact plain (t:=.agg a0) hk
 | clo a0 a1=>exact plain (t:=.clo a0 a1) hk
 | sl a0 a1=>exact plain (t:=.sl a0 a1) hk
 | own a0 a1=>exact plain (t:=.own a0 a1) hk
 | ref a0 a1 a2 a3 a4=>exact plain (t:=.ref a0 a1 a2 a3 a4) hk
 | ptr a0 a1 a2 a3=>exact plain (t:=.ptr a0 a1 a2 a3) hk
 | bx a0 a1 a2 a3=>exact plain (t:=.bx a0 a1 a2 a3) hk
 | ipt a0=>exact plain (t:=.ipt a0) hk
 | dead=>exact plain (t:=.dead) hk
 | hdr n=>exact plain (t:=.hdr n) hk
 | obx cs=>exact plain (t:=.obx cs) hk
end re
section strike
variable {E:Env} {z:Zn} {L:Lnt} {st:St} {gh:Nat→G} {w:World} {FS:List Nat} {a:Act}
theorem At.fewer (h:At E z L st gh w FS a) {fr':List (Nat×T)} {rt':List (Nat×Root)} {w':World} (hf:Part fr' st.fr) (hr:Part rt' st.rt)
  (hw1:w'.heap=w.heap) (hw2:w'.os=w.os) (hw3:w'.output=w.output) (hw4:w'.tape=w.tape):
  ∃ FS',At E z L ⟨st.n,reFr rt' fr',reRt rt',2⟩ gh w' FS' a:=by
 obtain⟨FS',g1,g2⟩:=okRts_fewer hr h.heap.roots
 have hm:∀ b,b∈FS'++[]→b∈FS++[]:=fun b hb=>by
  have h0:=List.count_pos_iff.2 hb
  have h1:=g2 b
  rw[←List.count_pos_iff]
  simp only[List.count_append] at *
  omega
 have hI:∀ b,Inow z w (FS++[]) b→Inow z w' (FS'++[]) b:=fun b hb=>
  h.heap.imm_grow (by rw[hw1];exact Nat.le_refl _) (fun b hb=>.inl (hm b hb)) hb
 have kp:Keeps ⟨szOf E,w.heap,Inow z w (FS++[]),st.rt,gh⟩ ⟨szOf E,w'.heap,Inow z w' (FS'++[]),rt',gh⟩ (Stm st.tick st.rt):=by
  refine⟨rfl,fun b hb=>⟨hI b hb,by show w'.heap[b]?=w.heap[b]?;rw[hw1]⟩,fun d s r' _ h1 h2=>⟨r',hr.lk h.heap.srt h1,h2,rfl,?_⟩,fun d s r' _ h1 h2=>⟨r',hr.lk h.heap.srt h1,h2,rfl⟩⟩
  show skL (szOf E) w'.heap w.heap r'.cells r'.cells (gh d).vals (gh d).vals
  exact skL_self h.heap.roots (fun b _=>by rw[hw1]) (hr.lk h.heap.srt h1)
 have heap1:HRel (szOf E) z rt' gh w' FS' []:=by
  refine⟨hr.srt h.heap.srt,?_,?_,?_,?_,?_⟩
  ·rw[hw1]
   exact okRts_agree ⟨fun b hb=>⟨hI b hb,rfl⟩,fun b _=>rfl⟩ g1
  ·intro x
   have:=h.heap.uniq x
   have:=g2 x
   simp only[List.count_append] at *
   omega
  ·intro b hb;rw[hw1];exact h.heap.lt b (hm b hb)
  ·intro b hb;exact h.heap.zone b (hm b hb)
  ·exact h.heap.fr.step (tot:=[]) (fun b hb=>by simp at hb) hw2 hw3 hw4 (by rw[hw1];exact Nat.le_refl _) (fun b _ _=>by rw[hw1])
 refine⟨FS',⟨⟨reRt_srt heap1.srt,reRt_ok heap1.roots,heap1.uniq,heap1.lt,heap1.zone,heap1.fr⟩,?_,h.frame.size,h.frame.defers,?_⟩,reFr_srt (hf.srt h.srt),?_,h.shape,(by show 0<2;omega),?_⟩
 ·intro d r hl
  obtain⟨r0,hl0,rfl⟩:=lk_reRt hl
  have h1:=stampOf_le r0
  have h2:=hvOf_le r0
  have h3:=(h.vers d r0 (hr.lk h.heap.srt hl0)).1
  refine⟨?_,by show hvOf r0≤2+1;omega,by show stampOf r0≤2;omega⟩
  show stampOf r0≤hvOf r0
  unfold stampOf hvOf
  split
  ·omega
  ·rw[if_neg (fun hh=>by omega)];omega
 ·intro d t hl
  obtain⟨t0,q0,rfl⟩:=lk_reFr hl
  obtain⟨u,q1,q2,q3⟩:=h.frame.tmp d t0 (hf.lk h.srt q0)
  obtain⟨m1,m2⟩:=reX_ok (kp.x q3 q2)
  exact⟨u,q1,m1,m2⟩
 ·intro p hp
  obtain⟨i,hi⟩:=h.shape p hp
  obtain⟨l1,l2⟩:=h.lent p hp
  have:=kp.x l2 l1
  rw[hi] at this ⊢
  obtain⟨k1,k2⟩:=this
  refine⟨⟨k1,fun r' hr' hv=>?_⟩,by omega,fun hx=>by simp at hx⟩
  obtain⟨r0,hl0,rfl⟩:=lk_reRt hr'
  refine k2 r0 hl0 ?_
  simp only[stampOf] at hv
  split at hv
  ·assumption
  ·simp at hv
 ·have hsp:=spine_step kp h.tk h.spine
  refine⟨fun d r hl hv=>?_,fun d r hl hv=>?_⟩
  ·obtain⟨r0,hl0,rfl⟩:=lk_reRt hl
   have hv0:r0.hver=0:=by
    have:hvOf r0=0:=hv
    unfold hvOf at this
    split at this
    ·rename_i hh;exact hh
    ·simp at this
   exact hsp.1 d r0 hl0 hv0
  ·obtain⟨r0,hl0,rfl⟩:=lk_reRt hl
   have hv0:r0.ver=0:=by
    have:stampOf r0=0:=hv
    unfold stampOf at this
    split at this
    ·rename_i hh;exact hh
    ·simp at this
   exact hsp.2 d r0 hl0 hv0
theorem At.world (h:At E z L st gh w FS a) {w':World} (hw1:w'.heap=w.heap) (hw2:w'.os=w.os) (hw3:w'.output=w.output) (hw4:w'.tape=w.tape):At E z L st gh w' FS a:=by
 have e:∀ tot b,Inow z w' tot b↔Inow z w tot b:=fun tot b=>by unfold Inow;rw[hw1]
 have e':Inow z w' (FS++[])=Inow z w (FS++[]):=funext fun b=>propext (e _ b)
 refine⟨⟨⟨h.heap.srt,?_,h.heap.uniq,?_,h.heap.zone,?_⟩,h.vers,?_⟩,h.srt,by rw[e',hw1];exact h.lent,h.shape,h.tk,by rw[hw1];exact h.spine⟩
 ·rw[e',hw1];exact h.heap.roots
 ·rw[hw1];exact h.heap.lt
 ·exact h.heap.fr.step (tot:=[]) (fun b hb=>by simp at hb) hw2 hw3 hw4 (by rw[hw1];exact Nat.le_refl _) (fun b _ _=>by rw[hw1])
 ·rw[e',hw1];exact h.frame
theorem without_part {α:Type} (ds:List Nat):∀ (l:List (Nat×α)),Part (without ds l) l
 | []=>.nil
 | (k,x)::r=>by
  simp only[without]
  split
  ·exact .drop (without_part ds r)
  ·exact .keep (without_part ds r)
theorem At.without (h:At E z L st gh w FS a) (ds:List Nat):At E z L ⟨st.n,TM.without ds st.fr,st.rt,st.tick⟩ gh w FS a:=
 ⟨⟨h.heap,h.vers,h.frame.size,h.frame.defers,fun d t hl=>h.frame.tmp d t ((without_part ds st.fr).lk h.srt hl)⟩,(without_part ds st.fr).srt h.srt,h.lent,h.shape,h.tk,h.spine⟩
theorem strike_ok (h:At E z L st gh w FS a) (l:Option (List Tmp×List Tmp)):∃ FS',At E z L (strike l st) gh w FS' a:=by
 unfold strike
 cases l with
 | none=>exact h.fewer (Part.rfl' _) (unspent_part _) rfl rfl rfl rfl
 | some l=>exact h.fewer (only_part _ _) ((only_part _ _).trans (unspent_part _)) rfl rfl rfl rfl
end strike
end Go.TM
