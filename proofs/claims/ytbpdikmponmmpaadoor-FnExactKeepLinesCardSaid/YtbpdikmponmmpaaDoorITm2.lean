/- Of the tree machine: its evaluator and why it is sound. -/
import Derived.Test.YtbpdikmponmmpaaDoorITm1
import Derived.Laws.BytesArg
import Derived.Laws.Append
import Derived.Laws.IdiomStrings
set_option linter.unusedSimpArgs false
set_option linter.unusedVariables false
namespace Go.TM
open Go
theorem okL_drop {sz h I}:∀ {cs us} (k:Nat),okL sz h I cs us []→okL sz h I (cs.drop k) (us.drop k) []
 | cs,us,0,hk=>by simpa using hk
 | [],us,k+1,hk=>by simp only[okL] at hk;simp[okL,hk.1]
 | c::cs,us,k+1,hk=>by
  simp only[okL] at hk
  obtain⟨u,us',f1,f2,rfl,hf,_,h2⟩:=hk
  obtain⟨rfl,rfl⟩:f1=[]∧f2=[]:=by simpa using hf.symm
  simpa using okL_drop k h2
theorem okL_take {sz h I}:∀ {cs us} (k:Nat),okL sz h I cs us []→okL sz h I (cs.take k) (us.take k) []
 | cs,us,0,hk=>by simp[okL]
 | [],us,k+1,hk=>by simp only[okL] at hk;simp[okL,hk.1]
 | c::cs,us,k+1,hk=>by
  simp only[okL] at hk
  obtain⟨u,us',f1,f2,rfl,hf,h1,h2⟩:=hk
  obtain⟨rfl,rfl⟩:f1=[]∧f2=[]:=by simpa using hf.symm
  simp only[List.take_succ_cons,okL]
  exact⟨u,_,[],[],rfl,rfl,h1,okL_take k h2⟩
section quiet
variable {E:Env} {z:Zn} {n tick:Nat} {fr:List (Nat×T)} {rt:List (Nat×Root)} {gh:Nat→G} {w:World} {FS:List Nat} {a:Act}
variable {call:FuncId→List Arg→Option Res} {me:FuncId} {d:Nat} {ty0:TypeId} {e:Eff} {o:Oper}
theorem args_ok {x:Cx} {S:Nat→Nat→Prop} {nn:Nat} {rt:List (Nat×Root)} (f:FRel x S nn fr a):∀ {xs:List Operand} {ts:List T},(args (St.val fr) xs).run rt=some ts→
  All2 (okX x) ts (xs.map a.eval)∧∀ t,t∈ts→stX S t
 | [],ts,h=>by simp only[args,Rd.run,Option.some.injEq] at h;subst h;exact⟨rfl,fun t ht=>by simp at ht⟩
 | o::xs,ts,h=>by
  simp only[args] at h
  obtain⟨t,h1,h⟩:=run_bind h
  obtain⟨ts',h2,h⟩:=run_bind h
  simp only[Rd.run,Option.some.injEq] at h;subst h
  obtain⟨k1,k2⟩:=f.val (run_of h1)
  obtain⟨k3,k4⟩:=args_ok f h2
  refine⟨⟨_,_,rfl,k1,k3⟩,fun t' ht=>?_⟩
  rcases List.mem_cons.1 ht with rfl | ht
  ·exact k2
  ·exact k4 t' ht
theorem valsOf_X {x:Cx}:∀ {ts:List T} {xs us:List Value},valsOf ts=some xs→All2 (okX x) ts us→us=xs
 | [],xs,us,h,hk=>by simp only[valsOf,Option.some.injEq] at h;subst h;exact hk
 | t::ts,xs,us,h,hk=>by
  cases t<;>simp only[valsOf] at h<;>try contradiction
  split at h
  ·rename_i v _ ys hy
   simp only[Option.some.injEq] at h;subst h
   obtain⟨b,bs,rfl,h1,h2⟩:=hk
   rw[valsOf_X hy h2,okX_v.1 h1]
  ·simp at h
theorem op_field {ty:TypeId} {x:Operand} {f:Nat} (ht:TiOk E) (h:Here E z n tick fr rt gh w FS a) (ho:o.op=.field ty x f)
  (he:(evOp E call me (St.val fr) tick d ty0 (.field ty x f)).run rt=some e):
  Says E z tick rt gh w FS d e (execOp a.eval o):=by
 simp only[evOp] at he
 obtain⟨t,h1,he1⟩:=run_bind he
 obtain⟨i,h2,he2⟩:=run_bind he1
 obtain⟨p,h3,he3⟩:=run_bind he2
 obtain⟨it,h4,he4⟩:=run_bind he3
 clear he he1 he2 he3
 obtain⟨k1,k2⟩:=h.frame.val (run_of h1)
 have ti:=ht _ _ (run_of h2)
 obtain⟨ft,hft,hft2⟩:=Option.bind_eq_some_iff.1 (run_of h4)
 have ti0:=ht _ _ hft2
 obtain⟨off,s⟩:=p
 obtain⟨fs,fd,inf,g1,g2,g3,g4,g5⟩:=ti.fields f off s (run_of h3)
 have g6:=ti.ftys f ft hft fs fd g1 g2
 split at he4
 ·rename_i cs
  obtain⟨us,q1,q2⟩:=k1
  split at he4
  ·rename_i hc
   obtain⟨hc1,hc2⟩:=hc
   dsimp only at hc1 hc2 he4
   have hx:(execOp a.eval o).run E.P w=(do let v ← part ft us.toArray off;pure (Next.value v):Sem Next).run E.P w:=by
    simp only[execOp,ho,q1,Instr.field,Sem.run_bind,run_underlying g1,Result.andThen_ok,g2,g3,g6]
    rfl
   split at he4
   ·rename_i ha
    simp only[Rd.run,Option.some.injEq] at he4;subst he4
    refine says_quiet h (u:=.agg (us.toArray.extract off (off+it.size))) ?_ ?_ ?_
    ·rw[hx]
     simp only[part,Sem.run_bind,ti0.isAgg,ti0.size,Result.andThen_ok,ha,if_true]
     rfl
    ·refine⟨(us.drop off).take s,?_,(q2.drop off).take s⟩
     rw[hc2,List.extract_toArray]
     simp
    ·intro t' ht'
     exact k2 t' (List.mem_of_mem_drop (List.mem_of_mem_take ht'))
   ·rename_i ha
    split at he4
    ·rename_i t' ht'
     split at he4
     ·simp only[Rd.run,Option.some.injEq] at he4;subst he4
      obtain⟨u,r1,r2⟩:=q2.get ht'
      obtain⟨m1,m2⟩:=lift02 r2 (k2 t' (List.mem_of_getElem? ht'))
      refine says_quiet h (u:=u) ?_ m1 m2
      rw[hx]
      have ha':it.agg=false:=by simpa using ha
      simp only[part,Sem.run_bind,ti0.isAgg,Result.andThen_ok,ha',Bool.false_eq_true,if_false,List.getElem?_toArray,r1]
      rfl
     ·simp[Rd.run] at he4
    ·simp[Rd.run] at he4
  ·simp[Rd.run] at he4
 ·simp[Rd.run] at he4
theorem op_fieldAddr {ty:TypeId} {x:Operand} {f:Nat} (ht:TiOk E) (h:Here E z n tick fr rt gh w FS a) (ho:o.op=.fieldAddr ty x f)
  (he:(evOp E call me (St.val fr) tick d ty0 (.fieldAddr ty x f)).run rt=some e):
  Says E z tick rt gh w FS d e (execOp a.eval o):=by
 simp only[evOp] at he
 obtain⟨t,h1,he1⟩:=run_bind he
 obtain⟨i,h2,he2⟩:=run_bind he1
 obtain⟨p,h3,he3⟩:=run_bind he2
 clear he he1 he2
 obtain⟨k1,k2⟩:=h.frame.val (run_of h1)
 have ti:=ht _ _ (run_of h2)
 obtain⟨off,s⟩:=p
 obtain⟨fs,fd,inf,g1,g2,g3,g4,g5⟩:=ti.fields f off s (run_of h3)
 dsimp only at he3
 split at he3
 ·simp[Rd.run] at he3
 ·rename_i hs
  have hsz:(sizeOf fd.type).run E.P w=.ok s w:=by simp[sizeOf,run_typeInfo g4,g5]
  have hx:∀ ad,a.eval x=.pointer (some ad)→(execOp a.eval o).run E.P w=.ok (.value (.pointer (some (ad.add off)))) w:=by
   intro ad hv
   simp only[execOp,ho,hv,Instr.fieldAt,Sem.run_bind,run_underlying g1,Result.andThen_ok,g2,Instr.sureAddr,fieldPlace,g3]
   simp[hs,hsz]
  split at he3
  ·rename_i d' ver path off0
   simp only[Rd.run,Option.some.injEq] at he3;subst he3
   obtain⟨⟨ad,hv⟩,k3⟩:=k1
   refine says_quiet h (hx ad hv) ⟨⟨_,rfl⟩,?_⟩ k2
   simp only[okPtr] at k3 ⊢
   cases path with
   | nil=>
    intro r r1 r2
    obtain⟨b,q1,q2⟩:=k3 r r1 r2
    rw[hv] at q2
    simp only[Value.pointer.injEq,Option.some.injEq] at q2
    subst q2
    exact⟨b,q1,by rw[addr_add,Nat.add_assoc]⟩
   | cons p ps=>
    intro r r1 r2 cs vs b o' r3
    have q2:=k3 r r1 r2 cs vs b o' r3
    rw[hv] at q2
    simp only[Value.pointer.injEq,Option.some.injEq] at q2
    subst q2
    rw[addr_add,Nat.add_assoc]
  ·rename_i cs
   simp only[Rd.run,Option.some.injEq] at he3;subst he3
   have k1':okV (szOf E) w.heap (Inow z w (FS++[])) (.ipt cs) (a.eval x) []:=k1
   simp only[okV,true_and] at k1'
   obtain⟨b,o',arr,el,fz,hv,r1,r2,r3⟩:=k1'
   refine says_quiet h (hx _ hv) (t:=.ipt (cs.drop off)) ?_ trivial
   show okV (szOf E) w.heap (Inow z w (FS++[])) (.ipt (cs.drop off)) _ []
   simp only[okV,true_and]
   refine⟨b,o'+off,arr,el,fz,by rw[addr_add],r1,r2,?_⟩
   have:=okL_drop off r3
   rw[List.drop_take,List.drop_drop] at this
   rwa[List.length_drop]
  ·simp[Rd.run] at he3
theorem loc_snoc {sz h}:∀ {path:List (Nat×Nat)} {cs vs ad c i},loc sz h cs vs ad (path++[(c,i)])=(loc sz h cs vs ad path).bind fun q=>loc sz h q.1 q.2.1 q.2.2 [(c,i)]
 | [],cs,vs,ad,c,i=>by simp only[List.nil_append,loc,Option.bind_some]
 | (c0,i0)::rest,cs,vs,ad,c,i=>by
  simp only[List.cons_append,loc]
  split
  ·split
   ·exact loc_snoc
   ·rfl
  ·rfl
theorem intArg_ok {x:Cx} {t:T} {m:Int} {u:Value} (h:intArg t=some m) (hk:okX x t u):∃ k,u=.int k m:=by
 cases t<;>try (simp[intArg] at h;done)
 rename_i v
 cases v<;>simp only[intArg] at h<;>try contradiction
 simp only[Option.some.injEq] at h;subst h
 exact⟨_,okX_v.1 hk⟩
theorem okEs_get {sz h I} {s:Nat}:∀ {es l} {i:Nat} {c:List T},okEs sz h I s es l []→es[i]?=some c→c.length=s∧okL sz h I c ((l.drop (i*s)).take s) []
 | [],l,i,c,_,h2=>by simp at h2
 | c0::es,l,0,c,hk,h2=>by
  simp only[okEs] at hk
  obtain⟨f1,f2,h0,hf,h1,_⟩:=hk
  obtain⟨rfl,rfl⟩:f1=[]∧f2=[]:=by simpa using hf.symm
  simp only[List.getElem?_cons_zero,Option.some.injEq] at h2;subst h2
  simpa using ⟨h0,h1⟩
 | c0::es,l,i+1,c,hk,h2=>by
  simp only[okEs] at hk
  obtain⟨f1,f2,h0,hf,_,h1⟩:=hk
  obtain⟨rfl,rfl⟩:f1=[]∧f2=[]:=by simpa using hf.symm
  simp only[List.getElem?_cons_succ] at h2
  obtain⟨g1,g2⟩:=okEs_get h1 h2
  refine⟨g1,?_⟩
  rw[List.drop_drop] at g2
  have:s+i*s=(i+1)*s:=by rw[Nat.succ_mul];omega
  rwa[this] at g2
theorem loc_descend {sz h}:∀ {path:List (Nat×Nat)} {cs vs ad cs' vs' ad'},loc sz h cs vs ad path=some (cs',vs',ad')→descend cs path=some cs'
 | [],cs,vs,ad,cs',vs',ad',hl=>by simp only[loc,Option.some.injEq,Prod.mk.injEq] at hl;simp only[descend,hl.1]
 | (c,i)::rest,cs,vs,ad,cs',vs',ad',hl=>by
  simp only[loc] at hl
  split at hl
  ·rename_i h1 _
   split at hl
   ·rename_i h2 _
    simp only[descend,h1,h2]
    exact loc_descend hl
   ·simp at hl
  ·simp at hl
theorem descend_head {cs:List T} {c i rest} {t:T} (h1:cs[c]?=some t):descend cs ((c,i)::rest)=descend [t] ((0,i)::rest):=by
 simp only[descend,h1,List.getElem?_cons_zero]
theorem content_tree {rt:List (Nat×Root)} {d ver c n:Nat} {path:List (Nat×Nat)} {e:TypeId} {es:List (List T)} (h:(content d ver path c n).run rt=some (e,es)):
  ∃ r,lk rt d=some r∧r.hver=ver∧∀ cs,descend r.cells path=some cs→cs[c]?=some (.own e es)∧es.length=n:=by
 unfold content at h
 obtain⟨t,h1,h2⟩:=run_bind h
 have hfin:t=.own e es∧es.length=n:=by
  split at h2
  ·split at h2
   ·simp only[Rd.run,Option.some.injEq,Prod.mk.injEq] at h2
    obtain⟨rfl,rfl⟩:=h2
    exact⟨rfl,by assumption⟩
   ·simp[Rd.run] at h2
  ·simp[Rd.run] at h2
 obtain⟨rfl,hn⟩:=hfin
 unfold rdPlace at h1
 split at h1
 ·obtain⟨r,t,g1,g2,g3,g4⟩:=run_cell h1
  simp only[Rd.run,Option.some.injEq] at g4;subst g4
  refine⟨r,g1,g2,fun cs hcs=>?_⟩
  simp only[descend,Option.some.injEq] at hcs;subst hcs
  exact⟨g3,hn⟩
 ·obtain⟨r,t,g1,g2,g3,g4⟩:=run_cell h1
  refine⟨r,g1,g2,fun cs hcs=>?_⟩
  rw[descend_head g3] at hcs
  rw[hcs] at g4
  dsimp only at g4
  split at g4
  ·rename_i t' ht'
   simp only[Rd.run,Option.some.injEq] at g4;subst g4
   exact⟨ht',hn⟩
  ·simp[Rd.run] at g4
theorem okPtr_of {x:Cx} {d ver off:Nat} {path:List (Nat×Nat)} {u:Value} (hp:path≠[])
  (h:∀ r,lk x.rt d=some r→r.hver=ver→∀ cs vs b o,loc x.sz x.h r.cells (x.gh d).vals (x.addr d) path=some (cs,vs,some (b,o))→u=.pointer (some ⟨b,o+off,none⟩)):
  okPtr x d ver path off u:=by
 cases path with
 | nil=>exact absurd rfl hp
 | cons p ps=>exact h
theorem op_indexAddr {ty:TypeId} {x ix:Operand} (ht:TiOk E) (h:Here E z n tick fr rt gh w FS a) (ho:o.op=.indexAddr ty x ix)
  (he:(evOp E call me (St.val fr) tick d ty0 (.indexAddr ty x ix)).run rt=some e):
  Says E z tick rt gh w FS d e (execOp a.eval o):=by
 simp only[evOp] at he
 obtain⟨t,h1,he1⟩:=run_bind he
 obtain⟨m,h2,he2⟩:=run_bind he1
 obtain⟨i,h3,he3⟩:=run_bind he2
 obtain⟨el,h4,he4⟩:=run_bind he3
 obtain⟨ie,h5,he5⟩:=run_bind he4
 clear he he1 he2 he3 he4
 obtain⟨k1,k2⟩:=h.frame.val (run_of h1)
 obtain⟨ti0,q1,q2⟩:=Option.bind_eq_some_iff.1 (run_of h2)
 obtain⟨ik,hi⟩:=intArg_ok q2 (h.frame.val q1).1
 have ti:=ht _ _ (run_of h3)
 have te:=ht _ _ (run_of h5)
 have hu:=ti.elem el (run_of h4)
 have hsz:szOf E el=ie.size:=by simp[szOf,run_of h5]
 have hx:∀ (b o' len cap:Nat),a.eval x=.slice (some ⟨b,o',none⟩) len cap→0≤m→m<len→
   (execOp a.eval o).run E.P w=.ok (.value (.pointer (some ⟨b,o'+m.toNat*szOf E el,none⟩))) w:=by
  intro b o' len cap hv h0 hm
  simp only[execOp,ho,hv,hi,Instr.indexAt,asIntOf,Sem.run_bind,Sem.run_pure,Result.andThen_ok,run_underlying hu]
  simp[h0,hm,hsz,te.size,addr_add]
 split at he5
 ·rename_i d' ver path c nn
  obtain⟨⟨e',es⟩,h6,he6⟩:=run_bind he5
  split at he6
  ·rename_i hc
   obtain⟨c1,c2,c3⟩:=hc
   dsimp only at c3;subst c3
   simp only[Rd.run,Option.some.injEq] at he6;subst he6
   obtain⟨k0,k1⟩:=k1
   obtain⟨f,r1,r2,r3⟩:=h.heap.content k1 h6
   have hlt:m.toNat<es.length:=by omega
   have hg:es[m.toNat]?=some es[m.toNat]:=by simp[hlt]
   obtain⟨b,o',cap,arr,elt,fz,fs',v1,v2,v3,v4,v5,v6,v7⟩:=own_some r1 hg
   refine says_quiet h (hx b o' es.length cap v1 c1 (by omega)) ⟨⟨_,rfl⟩,?_⟩ k2
   have hne:path++[(c,m.toNat)]≠[]:=by simp
   have key:∀ r,lk rt d'=some r→r.hver=ver→∀ cs vs b2 o2,loc (szOf E) w.heap r.cells (gh d').vals ((gh d').blk.map fun b=>(b.b,b.pre.length)) (path++[(c,m.toNat)])=some (cs,vs,some (b2,o2))→
     Value.pointer (some ⟨b,o'+m.toNat*szOf E e',none⟩)=.pointer (some ⟨b2,o2+0,none⟩):=by
    intro r g1 g2 cs vs b2 o2 g3
    rw[loc_snoc] at g3
    obtain⟨⟨cs0,vs0,ad0⟩,g4,g5⟩:=Option.bind_eq_some_iff.1 g3
    simp only[loc] at g5
    split at g5
    ·rename_i e2 es2 a2 _ _ g6 g7
     split at g5
     ·rename_i cs' arr2 _ _ g8 g9
      simp only[Option.some.injEq,Prod.mk.injEq] at g5
      obtain⟨rfl,_,g10,g11⟩:=g5
      obtain⟨r',m1,m2,m3⟩:=content_tree h6
      rw[g1] at m1
      simp only[Option.some.injEq] at m1;subst m1
      obtain⟨m4,m5⟩:=m3 cs0 (loc_descend g4)
      rw[m4] at g6
      simp only[Option.some.injEq,T.own.injEq] at g6
      obtain⟨rfl,rfl⟩:=g6
      have m6:=k1 r g1 g2 cs0 vs0 ad0 g4 e' es m4 m5
      rw[g7,v1] at m6
      simp only[Option.some.injEq,Value.slice.injEq] at m6
      obtain⟨rfl,_⟩:=m6
      dsimp only at g10 g11
      subst g10;subst g11
      rfl
     ·simp at g5
    ·simp at g5
   exact okPtr_of hne key
  ·simp[Rd.run] at he6
 ·rename_i e' es
  split at he5
  ·rename_i hc
   obtain⟨c1,rfl⟩:=hc
   split at he5
   ·rename_i cs hcs
    split at he5
    ·rename_i hl
     simp only[Rd.run,Option.some.injEq] at he5;subst he5
     have k1':okV (szOf E) w.heap (Inow z w (FS++[])) (.sl e' es) (a.eval x) []:=k1
     simp only[okV,true_and] at k1'
     obtain⟨ad,cap,hv,_,r1⟩:=k1'
     rcases r1 with rfl | ⟨b,o',arr,elt,fz,rfl,r2,r3,r4⟩
     ·simp at hcs
     ·have hlt:m.toNat<es.length:=(List.getElem?_eq_some_iff.1 hcs).1
      refine says_quiet h (hx b o' es.length cap hv c1 (by omega)) (t:=.ipt cs) ?_ trivial
      show okV (szOf E) w.heap (Inow z w (FS++[])) (.ipt cs) _ []
      simp only[okV,true_and]
      obtain⟨g1,g2⟩:=okEs_get r4 hcs
      refine⟨b,_,arr,elt,fz,rfl,r2,r3,?_⟩
      rw[List.drop_drop] at g2
      rw[g1];exact g2
    ·simp[Rd.run] at he5
   ·simp[Rd.run] at he5
  ·simp[Rd.run] at he5
 ·simp[Rd.run] at he5
end quiet
theorem rdCells_run {rt:List (Nat×Root)} {d ver:Nat}:∀ {n off:Nat} {cs:List T},(rdCells d ver off n).run rt=some cs→0<n→
  ∃ r,lk rt d=some r∧r.ver=ver∧off+n≤r.cells.length∧cs=(r.cells.drop off).take n
 | 0,off,cs,h,hn=>by omega
 | n+1,off,cs,h,hn=>by
  simp only[rdCells] at h
  obtain⟨r,t,h1,h2,h3,h4⟩:=run_cell h
  obtain⟨ts,h5,h6⟩:=run_bind h4
  simp only[Rd.run,Option.some.injEq] at h6;subst h6
  have hlt:off<r.cells.length:=(List.getElem?_eq_some_iff.1 h3).1
  have h2':r.ver=ver:=h2
  have hd:r.cells.drop off=t::r.cells.drop (off+1):=by
   rw[List.drop_eq_getElem_cons hlt]
   have:=(List.getElem?_eq_some_iff.1 h3).2
   rw[this]
  rcases Nat.eq_zero_or_pos n with rfl | hp
  ·simp only[rdCells,Rd.run,Option.some.injEq] at h5;subst h5
   exact⟨r,h1,h2',by omega,by rw[hd];simp⟩
  ·obtain⟨r',g1,g2,g3,g4⟩:=rdCells_run h5 hp
   rw[h1] at g1
   simp only[Option.some.injEq] at g1;subst g1
   exact⟨r,h1,h2',by omega,by rw[hd,g4];simp⟩
structure Row (sz:TypeId→Nat) (I:Nat→Prop) (rt:List (Nat×Root)) (gh:Nat→G) (w:World) (FS:List Nat) (d ver:Nat) (path:List (Nat×Nat)) (off:Nat) (u:Value)
  (ro:Root) (cs0:List T) (b o:Nat) (arr:Array Value) (el:TypeId) (fz:Nat×Nat) (f:List Nat):Prop where
 root:lk rt d=some ro
 ver:ro.at_ (!path.isEmpty)=ver
 loc:loc sz w.heap ro.cells (gh d).vals ((gh d).blk.map fun b=>(b.b,b.pre.length)) path=some (cs0,(arr.toList.drop o).take cs0.length,some (b,o))
 val:u=.pointer (some ⟨b,o+off,none⟩)
 heap:w.heap[b]?=some (.cells arr el fz)
 free:fzFree fz arr.size
 fits:o+cs0.length≤arr.size
 ok:okL sz w.heap I cs0 ((arr.toList.drop o).take cs0.length) f
 sub:∀ x,x∈f→x∈FS
 blk:b∈FS
 apart:b∉f
 desc:descend ro.cells path=some cs0
theorem HRel.row {sz z rt gh w FS X} {d ver off n:Nat} {path:List (Nat×Nat)} {u:Value} {cs:List T} (r:HRel sz z rt gh w FS X)
  (hk:okPtr ⟨sz,w.heap,Inow z w (FS++X),rt,gh⟩ d ver path off u) (h:(rdRow d ver path off n).run rt=some cs) (hn:0<n∨path≠[]):
  ∃ ro cs0 b o arr el fz f,Row sz (Inow z w (FS++X)) rt gh w FS d ver path off u ro cs0 b o arr el fz f∧off+n≤cs0.length∧cs=(cs0.drop off).take n:=by
 cases path with
 | nil=>
  simp only[rdRow] at h
  obtain⟨ro,h1,h2,h3,h4⟩:=rdCells_run h (by simpa using hn)
  obtain⟨⟨b,pre,post,el,fz⟩,g1,g2⟩:=hk ro h1 h2
  obtain⟨fo,hr,hs⟩:=okRts_get r.roots h1
  obtain⟨frr,rr,q1,q2,_⟩:=okRts_up (d:=d) r.srt r.roots
  have huFS:Uniq FS:=fun x=>by have:=r.uniq x;simp only[List.count_append] at this;omega
  have hr2:=q2 ro h1
  unfold okRoot at hr2
  rw[g1] at hr2
  obtain⟨_,fs',arr,rfl,k1,k2,k3,k4⟩:=hr2
  simp only at g2 k1 k2 k3
  have hb:b∉fs':=fun hm=>by
   have:=q1.uniq_l huFS b
   simp only[List.count_cons_self] at this
   have:=List.count_pos_iff.2 hm
   omega
  have hin:∀ x,x∈b::fs'→x∈FS:=fun x hx=>(q1.mem x).2 (.inl hx)
  have hlen:=okL_length k4
  have hsz:arr.size=pre.length+ro.cells.length+post.length:=by have:=congrArg List.length k3;simp at this;omega
  have hv:(arr.toList.drop pre.length).take ro.cells.length=(gh d).vals:=by
   rw[k3,List.append_assoc,List.drop_left,List.take_append_of_le_length (by omega),List.take_of_length_le (by omega)]
  refine⟨ro,ro.cells,b,pre.length,arr,el,fz,fs',⟨h1,h2,?_,g2,k1,k2,by omega,?_,fun x hx=>hin x (by simp[hx]),hin b (by simp),hb,rfl⟩,h3,h4⟩
  ·rw[hv,g1];rfl
  ·rw[hv];exact k4
 | cons p rest=>
  obtain⟨c0,i⟩:=p
  simp only[rdRow] at h
  obtain⟨ro,t,g1,g2,g3,g4⟩:=run_cell h
  split at g4
  ·rename_i cs0 hd
   split at g4
   ·rename_i hle
    simp only[Rd.run,Option.some.injEq] at g4;subst g4
    obtain⟨u0,b,o,arr,el,fz,f,m1,m2,m3,m4,m5,m6,m6',m7,m8,m9⟩:=r.locate g1 g3 hd
    refine⟨ro,cs0,b,o,arr,el,fz,f,⟨g1,g2,m9 _,?_,m3,m4,m5,m7,m8,m6,m6',?_⟩,hle,rfl⟩
    ·exact hk ro g1 g2 cs0 _ b o (m9 _)
    ·rw[descend_head g3];exact hd
   ·simp[Rd.run] at g4
  ·simp[Rd.run] at g4
theorem okV_cell {sz h I t u f} (hk:okV sz h I t u f) (hc:cell1 t=true) (hn:isOwn t=false):f=[]:=by
 cases t<;>simp_all [okV,cell1,isOwn]
theorem anyOwn_false:∀ {cs:List T},anyOwn cs=false→∀ t,t∈cs→isOwn t=false
 | [],_,t,ht=>by simp at ht
 | c::cs,h,t,ht=>by
  simp only[anyOwn,Bool.or_eq_false_iff] at h
  rcases List.mem_cons.1 ht with rfl | ht
  ·exact h.1
  ·exact anyOwn_false h.2 t ht
theorem okL_cells {sz h I}:∀ {cs us f},okL sz h I cs us f→(∀ t,t∈cs→cell1 t=true∧isOwn t=false)→okL sz h I cs us []
 | [],us,f,hk,_=>by simp only[okL] at hk ⊢;exact⟨hk.1,trivial⟩
 | c::cs,us,f,hk,ha=>by
  simp only[okL] at hk ⊢
  obtain⟨u,us',f1,f2,rfl,rfl,h1,h2⟩:=hk
  have:=okV_cell h1 (ha c (by simp)).1 (ha c (by simp)).2
  subst this
  exact⟨u,us',[],[],rfl,rfl,h1,okL_cells h2 fun t ht=>ha t (by simp[ht])⟩
theorem okL_sub {sz h I}:∀ {cs us f} (k n:Nat),okL sz h I cs us f→k+n≤cs.length→∃ f' r,Both f f' r∧okL sz h I ((cs.drop k).take n) ((us.drop k).take n) f'
 | cs,us,f,0,0,hk,_=>⟨[],f,fun x=>by simp,by simp[okL]⟩
 | [],us,f,k+1,n,hk,hle=>by simp at hle
 | [],us,f,0,n+1,hk,hle=>by simp at hle
 | c::cs,us,f,k+1,n,hk,hle=>by
  simp only[okL] at hk
  obtain⟨u,us',f1,f2,rfl,rfl,h1,h2⟩:=hk
  obtain⟨f',r,g1,g2⟩:=okL_sub k n h2 (by simp at hle;omega)
  exact⟨f',f1++r,fun x=>by have:=g1 x;simp only[List.count_append];omega,by simpa using g2⟩
 | c::cs,us,f,0,n+1,hk,hle=>by
  simp only[okL] at hk
  obtain⟨u,us',f1,f2,rfl,rfl,h1,h2⟩:=hk
  obtain⟨f',r,g1,g2⟩:=okL_sub 0 n h2 (by simp at hle;omega)
  refine⟨f1++f',r,fun x=>by have:=g1 x;simp only[List.count_append];omega,?_⟩
  simp only[List.drop_zero,List.take_succ_cons,okL] at g2 ⊢
  exact⟨u,_,f1,f',rfl,rfl,h1,g2⟩
theorem view_ok {x:Cx} {d hv:Nat} {path:List (Nat×Nat)} {vs0:List Value} {cs0:List T} {S:Nat→Nat→Prop} (hS:S d hv)
  (hp:∀ k e es u,cs0[k]?=some (.own e es)→vs0[k]?=some u→okRef x d hv path k es.length u):
  ∀ {cs us f} (k:Nat),okL x.sz x.h x.I cs us f→(∀ j t,cs[j]?=some t→cs0[k+j]?=some t)→(∀ j u,us[j]?=some u→vs0[k+j]?=some u)→
   All2 (okX0 x) (viewFrom d hv path k cs) us∧∀ t,t∈viewFrom d hv path k cs→st0 S t
 | [],us,f,k,hk,_,_=>by
  simp only[okL] at hk
  exact⟨hk.1,fun t ht=>by simp[viewFrom] at ht⟩
 | c::cs,us,f,k,hk,hc,hu=>by
  simp only[okL] at hk
  obtain⟨u,us',f1,f2,rfl,rfl,h1,h2⟩:=hk
  obtain⟨g1,g2⟩:=view_ok hS hp (k+1) h2 (fun j t hj=>by have:=hc (j+1) t (by simpa using hj);(have e:k+(j+1)=k+1+j:=by omega);rwa[e] at this)
   (fun j v hj=>by have:=hu (j+1) v (by simpa using hj);(have e:k+(j+1)=k+1+j:=by omega);rwa[e] at this)
  have key:okX0 x (view1 d hv path k c) u∧st0 S (view1 d hv path k c):=by
   cases hcc:c with
   | own e es=>
    subst hcc
    refine⟨⟨?_,hp k e es u (by simpa using hc 0 _ (by simp)) (by simpa using hu 0 _ (by simp))⟩,hS⟩
    simp only[okV] at h1
    rcases h1 with⟨rfl,_,a,rfl⟩ | ⟨b,o,cap,arr,el,fz,fs',rfl,_⟩
    ·exact⟨a,0,rfl⟩
    ·exact⟨_,_,rfl⟩
   | agg _=>exact⟨by show okV x.sz x.h x.I .dead u [];simp[okV],trivial⟩
   | tup _=>exact⟨by show okV x.sz x.h x.I .dead u [];simp[okV],trivial⟩
   | obx _=>exact⟨by show okV x.sz x.h x.I .dead u [];simp[okV],trivial⟩
   | _=>
    subst hcc
    have:=okV_cell h1 rfl rfl
    subst this
    exact okV_0 h1
  refine⟨⟨u,us',rfl,key.1,g1⟩,fun t ht=>?_⟩
  simp only[viewFrom] at ht
  rcases List.mem_cons.1 ht with rfl | ht
  ·exact key.2
  ·exact g2 t ht
theorem okRef_of_row {sz z rt gh w FS X} {d ver off:Nat} {path:List (Nat×Nat)} {u:Value} {ro:Root} {cs0:List T} {b o:Nat} {arr:Array Value} {el:TypeId} {fz:Nat×Nat} {f:List Nat}
  (_:HRel sz z rt gh w FS X) (R:Row sz (Inow z w (FS++X)) rt gh w FS d ver path off u ro cs0 b o arr el fz f):
  ∀ k e es v,cs0[k]?=some (.own e es)→((arr.toList.drop o).take cs0.length)[k]?=some v→okRef ⟨sz,w.heap,Inow z w (FS++X),rt,gh⟩ d ro.hver path k es.length v:=by
 intro k e es v h1 h2 r g1 g2 cs vs ad g3 e' es' g4 g5
 rw[R.root] at g1
 simp only[Option.some.injEq] at g1;subst g1
 have:=R.loc
 rw[show (⟨sz,w.heap,Inow z w (FS++X),rt,gh⟩:Cx).addr d=((gh d).blk.map fun b=>(b.b,b.pre.length)) from rfl] at g3
 rw[this] at g3
 simp only[Option.some.injEq,Prod.mk.injEq] at g3
 obtain⟨rfl,rfl,_⟩:=g3
 exact h2
theorem run_load_ok {P:Program} {w:World} {b o:Nat} {arr:Array Value} {el:TypeId} {fz:Nat×Nat} {v:Value} (h:w.heap[b]?=some (.cells arr el fz)) (hv:arr[o]?=some v):
  (load ⟨b,o,none⟩).run P w=.ok v w:=by
 simp[load,Sem.run,cell_of h hv]
theorem stamp_ok {tick d ver:Nat} {path:List (Nat×Nat)} {rt:List (Nat×Root)} {hv:Nat} (hvs:Vers tick rt) (hst:Stm tick rt d ver) (h:(stamp tick d ver path).run rt=some hv):
  ∃ r,lk rt d=some r∧r.hver=hv∧Stm tick rt d hv:=by
 unfold stamp at h
 obtain⟨r,h1,h2,h3⟩:=run_stamp h
 split at h3
 ·rename_i hc
  simp only[Rd.run,Option.some.injEq] at h3;subst h3
  have:=hvs d r h1
  refine⟨r,h1,rfl,?_⟩
  rcases hc with hc | hc
  ·exact⟨by omega,fun he=>by omega⟩
  ·rw[hc];exact hst
 ·simp[Rd.run] at h3
section quiet
variable {E:Env} {z:Zn} {n tick:Nat} {fr:List (Nat×T)} {rt:List (Nat×Root)} {gh:Nat→G} {w:World} {FS:List Nat} {a:Act}
variable {call:FuncId→List Arg→Option Res} {me:FuncId} {d:Nat} {ty0:TypeId} {e:Eff} {o:Oper}
theorem run_loadVar_agg {ty:TypeId} {i:TInfo} (ti:TOk E ty i) (ha:i.agg=true) (ad:Addr):(loadVar ty ad).run E.P w=(do pure (.agg (← loadCells ad i.size)):Sem Value).run E.P w:=by
 simp only[loadVar,Sem.run_bind,ti.isAgg,Result.andThen_ok,ha,if_true,ti.size]
theorem run_loadVar_one {ty:TypeId} {i:TInfo} (ti:TOk E ty i) (ha:i.agg=false) (ad:Addr):(loadVar ty ad).run E.P w=(load ad).run E.P w:=by
 simp only[loadVar,Sem.run_bind,ti.isAgg,Result.andThen_ok,ha,Bool.false_eq_true,if_false]
theorem load_cells {ty:TypeId} {i:TInfo} {t:T} {b o:Nat} {arr:Array Value} {el:TypeId} {fz:Nat×Nat} {ts:List T} (ti:TOk E ty i) (hb:w.heap[b]?=some (.cells arr el fz)) (hsz:o+i.size≤arr.size)
  {x:Cx} {S:Nat→Nat→Prop} (h1:All2 (okX0 x) ts ((arr.toList.drop o).take i.size)) (h2:∀ t,t∈ts→st0 S t)
  (ht:if i.agg then t=.agg ts else ts=[t]):∃ u,(loadVar ty ⟨b,o,none⟩).run E.P w=.ok u w∧okX x t u∧stX S t:=by
 cases ha:i.agg with
 | true=>
  rw[ha,if_pos rfl] at ht;subst ht
  refine⟨.agg ((arr.toList.drop o).take i.size).toArray,?_,⟨_,rfl,h1⟩,h2⟩
  rw[run_loadVar_agg ti ha,Sem.run_bind,run_loadCells_ok hb hsz]
  rfl
 | false=>
  rw[ha,if_neg (by simp)] at ht;subst ht
  obtain⟨u,us,g1,g2,g3⟩:=h1
  simp only[All2] at g3;subst g3
  obtain⟨m1,m2⟩:=lift02 g2 (h2 t (by simp))
  refine⟨u,?_,m1,m2⟩
  rw[run_loadVar_one ti ha]
  refine run_load_ok hb ?_
  have:((arr.toList.drop o).take i.size)[0]?=some u:=by rw[g1];rfl
  rw[List.getElem?_take] at this
  split at this
  ·rw[List.getElem?_drop] at this;simpa using this
  ·simp at this
theorem loadT_ok (ht:TiOk E) (h:Here E z n tick fr rt gh w FS a) {ty:TypeId} {t t':T} {u:Value} (he:(loadT E tick ty t).run rt=some t')
  (k1:okX ⟨szOf E,w.heap,Inow z w (FS++[]),rt,gh⟩ t u) (k2:stX (Stm tick rt) t):
  ∃ u',(Instr.loadAt ty u).run E.P w=.ok u' w∧okX ⟨szOf E,w.heap,Inow z w (FS++[]),rt,gh⟩ t' u'∧stX (Stm tick rt) t':=by
 unfold loadT at he
 split at he
 ·simp[Rd.run] at he
 ·rename_i i hi
  have ti:=ht _ _ hi
  split at he
  ·rename_i d' ver path off
   obtain⟨cs,h1,he1⟩:=run_bind he
   clear he
   obtain⟨⟨ad,hu⟩,k3⟩:=k1
   have hrun:(Instr.loadAt ty u).run E.P w=(loadVar ty ad).run E.P w:=by
    simp only[Instr.loadAt,hu,Instr.sureAddr,Sem.run_bind,Sem.run_pure,Result.andThen_ok]
   by_cases h0:0<i.size∨path≠[]
   ·obtain⟨ro,cs0,b,o',arr,el,fz,f,R,r1,r2⟩:=h.heap.row k3 h1 h0
    have hv:=R.val
    rw[hu] at hv
    simp only[Value.pointer.injEq,Option.some.injEq] at hv;subst hv
    rw[hrun]
    have hfit:o'+off+i.size≤arr.size:=by have:=R.fits;omega
    obtain⟨f',rr,q1,q2⟩:=okL_sub off i.size R.ok r1
    rw[←r2] at q2
    have hrow:(((arr.toList.drop o').take cs0.length).drop off).take i.size=(arr.toList.drop (o'+off)).take i.size:=by
     rw[List.drop_take,List.take_take,List.drop_drop,Nat.min_eq_left (by omega)]
    rw[hrow] at q2
    split at he1
    ·obtain⟨hv,h2,he2⟩:=run_bind he1
     obtain⟨r',s1,s2,s3⟩:=stamp_ok h.vers k2 h2
     rw[R.root] at s1
     simp only[Option.some.injEq] at s1;subst s1;subst s2
     obtain⟨v1,v2⟩:=view_ok s3 (okRef_of_row h.heap R) off q2
      (fun j t hj=>by
       rw[r2,List.getElem?_take] at hj
       split at hj
       ·rw[List.getElem?_drop] at hj;exact hj
       ·simp at hj)
      (fun j v hj=>by
       rw[←hrow,List.getElem?_take] at hj
       split at hj
       ·rw[List.getElem?_drop] at hj;exact hj
       ·simp at hj)
     refine load_cells ti R.heap hfit v1 v2 ?_
     clear h1 h2 he1
     split at he2
     ·rename_i ha
      simp only[Rd.run,Option.some.injEq] at he2
      rw[if_pos ha,←he2]
     ·rename_i ha
      rw[if_neg ha]
      split at he2
      ·simp only[Rd.run,Option.some.injEq] at he2
       rw[←he2];rfl
      ·simp[Rd.run] at he2
    ·rename_i hno
     split at he1
     ·simp[Rd.run] at he1
     ·rename_i hall
      simp only[Bool.not_eq_true',Bool.not_eq_false,List.all_eq_true] at hall
      have hno':=anyOwn_false (by simpa using hno)
      obtain⟨v1,v2⟩:=okL_0 (x:=⟨szOf E,w.heap,Inow z w (FS++[]),rt,gh⟩) (S:=Stm tick rt) (okL_cells q2 fun t ht=>⟨hall t ht,hno' t ht⟩)
      refine load_cells ti R.heap hfit v1 v2 ?_
      split at he1
      ·rename_i ha
       simp only[Rd.run,Option.some.injEq] at he1
       rw[if_pos ha,←he1]
      ·rename_i ha
       rw[if_neg ha]
       split at he1
       ·simp only[Rd.run,Option.some.injEq] at he1
        rw[←he1]
       ·simp[Rd.run] at he1
   ·have hz:i.size=0:=by omega
    have hp:path=[]:=by
     rcases path with _ | ⟨p,ps⟩
     ·rfl
     ·exact absurd (Or.inr (by simp)) h0
    subst hp
    rw[hz] at h1
    simp only[rdRow,rdCells,Rd.run,Option.some.injEq] at h1;subst h1
    simp only[anyOwn,Bool.false_eq_true,if_false,List.all_nil,Bool.not_true] at he1
    split at he1
    ·rename_i ha
     simp only[Rd.run,Option.some.injEq] at he1;subst he1
     refine⟨.agg #[],?_,⟨[],rfl,rfl⟩,fun t ht=>by simp at ht⟩
     rw[hrun,run_loadVar_agg ti ha,hz]
     rfl
    ·simp[Rd.run] at he1
  ·rename_i d' ver path off
   split at he
   ·rename_i hcond
    simp only[Rd.run,Option.some.injEq] at he;subst he
    obtain⟨b,arr,el,fz,u',hu,r1,r2,r3,r4,r5⟩:=k1
    have hrun:(Instr.loadAt ty u).run E.P w=(loadVar ty ⟨b,0,none⟩).run E.P w:=by
     simp only[Instr.loadAt,hu,Instr.sureAddr,Sem.run_bind,Sem.run_pure,Result.andThen_ok]
    rw[hrun]
    have hal:arr.toList.length=arr.size:=Array.length_toList
    rw[r3] at hal
    refine load_cells (ts:=[.ptr d' ver path off]) ti r2 (by rw[hcond.1,←hal];simp) ?_ (fun t ht=>?_) (by rw[hcond.2];rfl)
    ·rw[hcond.1,r3];exact⟨u',[],rfl,⟨r4,r5⟩,rfl⟩
    ·rw[List.mem_singleton.1 ht];exact k2
   ·simp[Rd.run] at he
  ·rename_i cs
   have k1':okV (szOf E) w.heap (Inow z w (FS++[])) (.ipt cs) u []:=k1
   simp only[okV,true_and] at k1'
   obtain⟨b,o',arr,el,fz,hu,r1,r2,r3⟩:=k1'
   have hrun:(Instr.loadAt ty u).run E.P w=(loadVar ty ⟨b,o',none⟩).run E.P w:=by
    simp only[Instr.loadAt,hu,Instr.sureAddr,Sem.run_bind,Sem.run_pure,Result.andThen_ok]
   rw[hrun]
   split at he
   ·rename_i hle
    have hlen:=okL_length r3
    rw[List.length_take,List.length_drop] at hlen
    have hal:arr.toList.length=arr.size:=Array.length_toList
    have q2:=okL_take i.size r3
    rw[List.take_take,Nat.min_eq_left hle] at q2
    obtain⟨v1,v2⟩:=okL_0 (x:=⟨szOf E,w.heap,Inow z w (FS++[]),rt,gh⟩) (S:=Stm tick rt) q2
    by_cases hz:i.size=0
    ·have hcs:cs.take i.size=[]:=by rw[hz];simp
     split at he
     ·rename_i ha
      simp only[Rd.run,Option.some.injEq] at he;subst he
      rw[hcs]
      refine⟨.agg #[],?_,⟨[],rfl,rfl⟩,fun t ht=>by simp at ht⟩
      rw[run_loadVar_agg ti ha,hz]
      rfl
     ·split at he
      ·rw[if_neg (by omega)] at he
       simp[Rd.run] at he
      ·simp[Rd.run] at he
    ·refine load_cells ti r2 (by omega) v1 v2 ?_
     split at he
     ·rename_i ha
      simp only[Rd.run,Option.some.injEq] at he
      rw[if_pos ha,←he]
     ·rename_i ha
      rw[if_neg ha]
      split at he
      ·split at he
       ·rename_i h1
        simp only[Rd.run,Option.some.injEq] at he
        rw[h1,←he];rfl
       ·simp[Rd.run] at he
      ·simp[Rd.run] at he
   ·simp[Rd.run] at he
  ·simp[Rd.run] at he
theorem op_load {ty:TypeId} {x:Operand} (ht:TiOk E) (h:Here E z n tick fr rt gh w FS a) (ho:o.op=.load ty x)
  (he:(evOp E call me (St.val fr) tick d ty0 (.load ty x)).run rt=some e):
  Says E z tick rt gh w FS d e (execOp a.eval o):=by
 simp only[evOp] at he
 obtain⟨t,h1,he1⟩:=run_bind he
 obtain⟨t',h2,he2⟩:=run_bind he1
 simp only[Rd.run,Option.some.injEq] at he2;subst he2
 obtain⟨k1,k2⟩:=h.frame.val (run_of h1)
 obtain⟨u',g1,g2,g3⟩:=loadT_ok ht h h2 k1 k2
 refine says_quiet h (u:=u') ?_ g2 g3
 simp only[execOp,ho,Sem.run_bind,g1,Result.andThen_ok]
 rfl
end quiet
theorem okEs_bytes {sz h I} {s:Nat}:∀ {es:List (List T)} {l f bs},okEs sz h I s es l f→bytesOfT es=some bs→es≠[]→
  s=1∧∃ ns:List Int,l.take es.length=ns.map (Value.int .u8)∧bs=ns.map fun n=>UInt8.ofNat n.toNat
 | [],l,f,bs,_,_,hn=>absurd rfl hn
 | c::es,l,f,bs,hk,hb,_=>by
  simp only[okEs] at hk
  obtain⟨f1,f2,h0,_,h1,h2⟩:=hk
  unfold bytesOfT at hb
  split at hb
  ·rename_i heq;simp at heq
  ·rename_i n es' heq
   simp only[List.cons.injEq] at heq
   obtain⟨rfl,rfl⟩:=heq
   split at hb
   ·rename_i bs' hb'
    simp only[Option.some.injEq] at hb;subst hb
    simp only[List.length_cons,List.length_nil] at h0
    subst h0
    refine⟨rfl,?_⟩
    simp only[okL,okV] at h1
    obtain⟨u,us,q1,q2,h3,_,⟨rfl,_⟩,rfl,_⟩:=h1
    have hl:∃ l',l=.int .u8 n::l':=by
     cases l with
     | nil=>simp at h3
     | cons x l'=>simp at h3;exact⟨l',by rw[h3]⟩
    obtain⟨l',rfl⟩:=hl
    simp only[List.drop_succ_cons,List.drop_zero] at h2
    by_cases hes:es=[]
    ·subst hes
     simp only[bytesOfT,Option.some.injEq] at hb';subst hb'
     exact⟨[n],by simp,by simp⟩
    ·obtain⟨_,ns,g1,g2⟩:=okEs_bytes h2 hb' hes
     exact⟨n::ns,by simp[g1],by simp[g2]⟩
   ·simp at hb
  ·simp at hb
section quiet
variable {E:Env} {z:Zn} {n tick:Nat} {fr:List (Nat×T)} {rt:List (Nat×Root)} {gh:Nat→G} {w:World} {FS:List Nat} {a:Act}
variable {call:FuncId→List Arg→Option Res} {me:FuncId} {d:Nat} {ty0:TypeId} {e:Eff} {o:Oper}
theorem run_u8 {P:Program} {src dst:TypeId} (h:pureRun P (isU8Slice src dst)=some true):∃ e,P.underlying src=some (.slice e)∧P.underlying e=some (.int .u8)∧P.underlying dst=some .string:=by
 have h2:=pureRun_sound h (default:World)
 unfold isU8Slice at h2
 simp only[Sem.run_bind,underlying,program,Sem.run] at h2
 cases hs:P.underlying src with
 | none=>simp[hs,stuck,Result.andThen] at h2
 | some s=>
  cases hd:P.underlying dst with
  | none=>simp[hs,hd,stuck,Result.andThen] at h2
  | some dd=>
   simp only[hs,hd,Result.andThen] at h2
   cases s<;>cases dd<;>simp[Sem.run] at h2
   rename_i e
   cases he:P.underlying e with
   | none=>simp[he,stuck] at h2
   | some k=>
    cases k<;>simp[he] at h2
    rename_i k
    cases k<;>simp at h2
    exact⟨e,rfl,he,rfl⟩
theorem convert_bytes {src dst:TypeId} {es:List (List T)} {bs:List UInt8} {ad:Option Addr} {cap:Nat} (hu:pureRun E.P (isU8Slice src dst)=some true) (hb:bytesOfT es=some bs)
  (hk:es=[]∨∃ b o arr el fz s f I,ad=some ⟨b,o,none⟩∧w.heap[b]?=some (.cells arr el fz)∧okEs (szOf E) w.heap I s es (arr.toList.drop o) f):
  (convert src dst (.slice ad es.length cap)).run E.P w=.ok (.string ⟨bs.toArray⟩) w:=by
 obtain⟨e,h1,h2,h3⟩:=run_u8 hu
 rw[run_convert_bytes_string w src dst e _ _ _ h1 h2 h3]
 by_cases hes:es=[]
 ·subst hes
  simp only[bytesOfT,Option.some.injEq] at hb;subst hb
  cases ad with
  | none=>rfl
  | some ad=>
   rw[run_bytesToString w ad _ cap [] (by rfl)]
   rfl
 ·obtain⟨b,o',arr,el,fz,s,f,I,rfl,g1,g2⟩:=hk.resolve_left hes
  obtain⟨rfl,ns,g3,rfl⟩:=okEs_bytes g2 hb hes
  have hlen:ns.length=es.length:=by
   have hle:es.length≤(arr.toList.drop o').length:=by
    have:∀ {es:List (List T)} {l f},okEs (szOf E) w.heap I 1 es l f→es.length≤l.length:=by
     intro es
     induction es with
     | nil=>intro l f _;simp
     | cons c es ih=>
      intro l f hk
      simp only[okEs] at hk
      obtain⟨f1,f2,h0,_,h1,h2⟩:=hk
      have q1:=okL_length h1
      have q2:=ih h2
      rw[List.length_take] at q1
      rw[List.length_drop] at q2
      simp only[List.length_cons]
      omega
    exact this g2
   have:=congrArg List.length g3
   rw[List.length_take,List.length_map] at this
   omega
  have hsz:o'+es.length≤arr.size:=by
   have:=congrArg List.length g3
   rw[List.length_take,List.length_map,List.length_drop,hlen] at this
   have hal:arr.toList.length=arr.size:=Array.length_toList
   have:0<es.length:=List.length_pos_iff.2 hes
   omega
  rw[run_bytesToString w _ _ cap ns (by rw[run_loadCells_ok g1 hsz,g3]),foldl_push_bytes]
  simp[ByteArray.empty,ByteArray.emptyWithCapacity]
  rfl
theorem op_convert_quiet {src dst:TypeId} {x:Operand} (h:Here E z n tick fr rt gh w FS a) (ho:o.op=.convert src dst x)
  (he:(evOp E call me (St.val fr) tick d ty0 (.convert src dst x)).run rt=some e)
  (hq:∀ s,St.val fr x=some (.v (.string s))→∀ i,E.ti dst=some i→i.elem=none):
  Says E z tick rt gh w FS d e (execOp a.eval o):=by
 simp only[evOp] at he
 obtain⟨t,h1,he1⟩:=run_bind he
 clear he
 have hx:=run_of h1
 clear h1
 obtain⟨k1,k2⟩:=h.frame.val hx
 split at he1
 ·rename_i s
  obtain⟨i,h2,he2⟩:=run_bind he1
  rw[hq s hx i (run_of h2)] at he2
  have:=plain_ok (d:=d) h he2
  simpa only[execOp,ho,okX_v.1 k1] using this
 ·rename_i e' es
  obtain⟨bs,h2,he2⟩:=run_bind he1
  split at he2
  ·rename_i hu
   simp only[Rd.run,Option.some.injEq] at he2;subst he2
   have k1':okV (szOf E) w.heap (Inow z w (FS++[])) (.sl e' es) (a.eval x) []:=k1
   simp only[okV,true_and] at k1'
   obtain⟨ad,cap,hv,_,r1⟩:=k1'
   refine says_quiet h (u:=.string ⟨bs.toArray⟩) ?_ (okX_v.2 rfl) trivial
   simp only[execOp,ho,hv,Sem.run_bind]
   rw[convert_bytes (w:=w) hu (run_of h2) (by
    rcases r1 with r1 | ⟨b,o',arr,el,fz,q1,q2,q3,q4⟩
    ·exact .inl r1
    ·exact .inr ⟨b,o',arr,el,fz,_,_,_,q1,q3,q4⟩)]
   rfl
  ·simp[Rd.run] at he2
 ·rename_i d' ver path c nn
  obtain⟨⟨e',es⟩,h2,he2⟩:=run_bind he1
  obtain⟨bs,h3,he3⟩:=run_bind he2
  split at he3
  ·rename_i hu
   simp only[Rd.run,Option.some.injEq] at he3;subst he3
   obtain⟨k0,k1⟩:=k1
   obtain⟨f,r1,r2,r3⟩:=h.heap.content k1 h2
   refine says_quiet h (u:=.string ⟨bs.toArray⟩) ?_ (okX_v.2 rfl) trivial
   simp only[okV] at r1
   rcases r1 with⟨rfl,_,ad,hv⟩ | ⟨b,o',cap,arr,el,fz,fs',hv,q1,q2,q3,q4,_,q5⟩
   ·simp only[execOp,ho,hv,Sem.run_bind]
    have:=convert_bytes (w:=w) (es:=[]) (ad:=ad) (cap:=0) hu (run_of h3) (.inl rfl)
    simp only[List.length_nil] at this
    rw[this]
    rfl
   ·simp only[execOp,ho,hv,Sem.run_bind]
    rw[convert_bytes (w:=w) hu (run_of h3) (.inr ⟨b,o',arr,el,fz,_,_,_,rfl,q2,q5⟩)]
    rfl
  ·simp[Rd.run] at he3
 ·rename_i v _
  have:=plain_ok (d:=d) h he1
  simpa only[execOp,ho,okX_v.1 k1] using this
 ·simp[Rd.run] at he1
theorem op_makeFunc {f:FuncId} {first caps:Array Operand} (h:Here E z n tick fr rt gh w FS a) (ho:o.op=.makeFunc (.func f) first caps)
  (he:(evOp E call me (St.val fr) tick d ty0 (.makeFunc (.func f) first caps)).run rt=some e):
  Says E z tick rt gh w FS d e (execOp a.eval o):=by
 simp only[evOp] at he
 split at he
 ·rename_i hf
  obtain⟨ts,h1,he1⟩:=run_bind he
  obtain⟨k1,k2⟩:=args_ok h.frame h1
  split at he1
  ·rename_i hall
   simp only[List.all_eq_true] at hall
   simp only[Rd.run,Option.some.injEq] at he1;subst he1
   refine says_quiet h (u:=.func (.func f) #[] (caps.map a.eval)) ?_ ⟨(caps.toList.map a.eval),?_,?_⟩ ?_
   ·have:first=#[]:=by simpa using hf
    simp only[execOp,ho,Instr.makeFunc,this,Array.map_empty]
    rfl
   ·rw[←Array.toList_map]
   ·refine k1.imp fun t u ht hk=>?_
    have h3:=hall t ht
    cases t<;>first | exact hk | (simp[cap1] at h3;done)
   ·intro t ht
    have h1:=hall t ht
    have h2:=k2 t ht
    cases t<;>first | exact h2 | (simp[cap1] at h1;done)
  ·simp[Rd.run] at he1
 ·simp[Rd.run] at he
theorem sliceLen_ok {x:Cx} {t:T} {m:Nat} {u:Value} (h:sliceLen t=some m) (hk:okX x t u):∃ ad cap,u=.slice ad m cap:=by
 unfold sliceLen at h
 split at h
 ·simp only[Option.some.injEq] at h;subst h
  have k1':okV x.sz x.h x.I (.hdr _) u []:=hk
  simp only[okV,true_and] at k1'
  exact k1'
 ·simp only[Option.some.injEq] at h;subst h
  obtain⟨⟨ad,cap,hv⟩,_⟩:=hk
  exact⟨ad,cap,hv⟩
 ·rename_i e es
  simp only[Option.some.injEq] at h;subst h
  have k1':okV x.sz x.h x.I (.sl e es) u []:=hk
  simp only[okV,true_and] at k1'
  obtain⟨ad,cap,hv,_,r1⟩:=k1'
  exact⟨ad,cap,hv⟩
 ·simp only[Option.some.injEq] at h;subst h
  exact⟨none,0,okX_v.1 hk⟩
 ·simp at h
theorem execOp_builtin {c:Call} {b:Builtin} (ho:o.op=.call c) (hc:c.callee=.builtin b) (w:World):
  ∃ cs,(execOp a.eval o).run E.P w=(builtin b c.argTypes o.type cs (c.args.map a.eval)).run E.P w:=by
 refine⟨c.args.map fun | .const _=>true | _=>false,?_⟩
 simp only[execOp,ho,resolve,hc,Sem.run_bind,Sem.run_pure,Result.andThen_ok,invoke]
 rfl
theorem op_len {c:Call} (ht:TiOk E) (h:Here E z n tick fr rt gh w FS a) (ho:o.op=.call c) (hc:c.callee=.builtin .len)
  (he:(evOp E call me (St.val fr) tick d ty0 (.call c)).run rt=some e):
  Says E z tick rt gh w FS d e (execOp a.eval o):=by
 simp only[evOp,hc] at he
 obtain⟨ts,h1,he1⟩:=run_bind he
 obtain⟨k1,k2⟩:=args_ok h.frame h1
 clear he
 unfold Says
 obtain⟨cs,hcs⟩:=execOp_builtin (a:=a) (E:=E) ho hc w
 rw[hcs]
 split at he1
 ·rename_i t
  obtain⟨u,us,q1,q2,q3⟩:=k1
  simp only[All2] at q3;subst q3
  have ha:c.args.map a.eval=#[u]:=by rw[←Array.toList_inj,Array.toList_map,q1]
  rw[ha]
  split at he1
  ·rename_i m hm
   obtain⟨i,h2,he2⟩:=run_bind he1
   split at he2
   ·rename_i hi
    simp only[Rd.run,Option.some.injEq] at he2;subst he2
    obtain⟨ad,cap,rfl⟩:=sliceLen_ok hm q2
    obtain⟨el,hel⟩:=Option.isSome_iff_exists.1 hi
    obtain⟨t0,g1,g3⟩:=Option.bind_eq_some_iff.1 (run_of h2)
    have g2:=(ht _ _ g3).elem el hel
    have:(builtin .len c.argTypes o.type cs #[Value.slice ad m cap]).run E.P w=.ok (.value (.int .i64 m)) w:=by
     simp[builtin,Builtin.len_,g1,run_underlying g2,goInt]
    rw[this]
    exact h.done_val
   ·simp[Rd.run] at he2
  ·obtain⟨v,h2,he2⟩:=run_bind he1
   have hv:=toVal_ok (run_of h2) q2
   subst hv
   have:=plain_ok (d:=d) h he2
   exact this
 ·simp[Rd.run] at he1
theorem op_minmax {c:Call} {b:Builtin} {f:Array TypeId→TypeId→Array Value→Sem Value} (h:Here E z n tick fr rt gh w FS a) (ho:o.op=.call c) (hc:c.callee=.builtin b)
  (hf:∀ ty cs vs,Go.builtin b c.argTypes ty cs vs=(do pure (.value (← f c.argTypes ty0 vs)):Sem Next))
  (he:((args (St.val fr) c.args.toList).bind fun ts=>(Rd.of (valsOf ts)).bind fun xs=>plainEff E (f c.argTypes ty0 xs.toArray)).run rt=some e):
  Says E z tick rt gh w FS d e (execOp a.eval o):=by
 obtain⟨ts,h1,he1⟩:=run_bind he
 obtain⟨xs,h2,he2⟩:=run_bind he1
 obtain⟨k1,k2⟩:=args_ok h.frame h1
 have hx:=valsOf_X (run_of h2) k1
 unfold Says
 obtain⟨cs,hcs⟩:=execOp_builtin (a:=a) (E:=E) ho hc w
 rw[hcs,hf]
 have ha:c.args.map a.eval=xs.toArray:=by rw[←hx,←Array.toList_inj,Array.toList_map]
 rw[ha]
 exact plain_ok (d:=d) h he2
theorem bound_ok {x:Cx} {S:Nat→Nat→Prop} {nn:Nat} {rt:List (Nat×Root)} (f:FRel x S nn fr a) {lo:Option Operand} {ts:List T} {dflt l:Int} (h:(args (St.val fr) lo.toList).run rt=some ts)
  (hb:boundOf ts dflt=some l):(lo=none∧l=dflt)∨∃ xo k,lo=some xo∧a.eval xo=.int k l:=by
 cases lo with
 | none=>
  simp only[Option.toList,args,Rd.run,Option.some.injEq] at h;subst h
  simp only[boundOf,Option.some.injEq] at hb
  exact .inl ⟨rfl,hb.symm⟩
 | some xo=>
  obtain⟨k1,k2⟩:=args_ok f h
  simp only[Option.toList,List.map_cons,List.map_nil] at k1
  cases ts with
  | nil=>simp[All2] at k1
  | cons t ts=>
   obtain⟨u,us,q1,q2,q3⟩:=k1
   simp only[List.cons.injEq] at q1
   simp only[boundOf] at hb
   obtain⟨k,hk⟩:=intArg_ok hb q2
   exact .inr ⟨xo,k,rfl,by rw[q1.1,hk]⟩
theorem okEs_drop {sz h I} {s:Nat}:∀ {es:List (List T)} {l} (k:Nat),okEs sz h I s es l []→okEs sz h I s (es.drop k) (l.drop (k*s)) []
 | es,l,0,hk=>by simpa using hk
 | [],l,k+1,hk=>by simp[okEs]
 | c::es,l,k+1,hk=>by
  simp only[okEs] at hk
  obtain⟨f1,f2,h0,hf,_,h1⟩:=hk
  obtain⟨rfl,rfl⟩:f1=[]∧f2=[]:=by simpa using hf.symm
  have:=okEs_drop k h1
  rw[List.drop_drop] at this
  have e1:s+k*s=(k+1)*s:=by rw[Nat.succ_mul];omega
  rw[e1] at this
  simpa using this
theorem okEs_take {sz h I} {s:Nat}:∀ {es:List (List T)} {l} (k:Nat),okEs sz h I s es l []→okEs sz h I s (es.take k) l []
 | es,l,0,hk=>by simp[okEs]
 | [],l,k+1,hk=>by simp[okEs]
 | c::es,l,k+1,hk=>by
  simp only[okEs,List.take_succ_cons] at hk ⊢
  obtain⟨f1,f2,h0,hf,h1,h2⟩:=hk
  obtain⟨rfl,rfl⟩:f1=[]∧f2=[]:=by simpa using hf.symm
  exact⟨[],[],h0,rfl,h1,okEs_take k h2⟩
theorem sliceBound_ok {P:Program} {k:IntKind} {i:Int} {y:Nat} {code:BoundsCode} (h0:0≤i) (h1:i≤y) (w:World):(Instr.sliceBound (.int k i) y code).run P w=.ok i.toNat w:=by
 simp[Instr.sliceBound,asIntOf,h0,h1]
theorem sliceBounds2 {P:Program} {lo hi:Option Value} {len cap:Nat} {l h:Int} (hl:(lo=none∧l=0)∨∃ k,lo=some (.int k l)) (hh:(hi=none∧h=len)∨∃ k,hi=some (.int k h))
  (h0:0≤l) (h1:l≤h) (h2:h≤len) (hc:len≤cap) (w:World):(Instr.sliceBounds true len cap lo hi none).run P w=.ok (l.toNat,h.toNat,cap) w:=by
 have e1:(match hi with | some v=>Instr.sliceBound v cap .sliceAcap | none=>(pure len:Sem Nat)).run P w=.ok h.toNat w:=by
  rcases hh with⟨rfl,rfl⟩ | ⟨k,rfl⟩
  ·simp
  ·exact sliceBound_ok (by omega) (by omega) w
 have e2:(match lo with | some v=>Instr.sliceBound v h.toNat .sliceB | none=>(pure 0:Sem Nat)).run P w=.ok l.toNat w:=by
  rcases hl with⟨rfl,rfl⟩ | ⟨k,rfl⟩
  ·simp
  ·exact sliceBound_ok h0 (by omega) w
 unfold Instr.sliceBounds
 cases hi<;>cases lo<;>simp_all [Sem.run_bind]
theorem szE (ht:TiOk E) {ty el:TypeId} {i:TInfo} (hi:E.ti ty=some i) (hel:i.elem=some el) (w:World):∃ m,(sizeOf el).run E.P w=.ok m w∧szOf E el=m:=by
 obtain⟨ie,hie⟩:=(ht _ _ hi).elemInfo el hel
 exact⟨ie.size,(ht _ _ hie).size w,by simp[szOf,hie]⟩
theorem okEs_rowsV {sz h I} {s:Nat}:∀ {rows:List (List Value)},(∀ r,r∈rows→r.length=s)→okEs sz h I s (rows.map (·.map T.v)) rows.flatten []
 | [],_=>by simp[okEs]
 | r::rows,hr=>by
  have h1:=hr r (by simp)
  simp only[List.map_cons,List.flatten_cons,okEs]
  refine⟨[],[],by simp[h1],rfl,?_,?_⟩
  ·rw[←h1,List.take_left]
   have:∀ l:List Value,okL sz h I (l.map T.v) l []:=by
    intro l
    induction l with
    | nil=>simp[okL]
    | cons x l ih=>simp only[List.map_cons,okL];exact⟨x,l,[],[],rfl,rfl,by simp[okV],ih⟩
   exact this r
  ·rw[←h1,List.drop_left,h1]
   exact okEs_rowsV fun r hq=>hr r (by simp[hq])
theorem run_isArr {P:Program} {ty e n:Nat} (h:pureRun P (isArr ty e n)=some true):P.underlying ty=some (.array n e):=by
 unfold isArr at h
 cases hu:P.underlying ty with
 | none=>simp[underlying,program,pureRun,Sem.bind,Bind.bind,hu,stuck] at h
 | some k=>
  cases k<;>simp[underlying,program,pureRun,Sem.bind,Bind.bind,Pure.pure,Sem.pure,hu] at h
  obtain⟨rfl,rfl⟩:=h
  rfl
theorem op_slice_glob {ty:TypeId} {x:Operand} {lo hi mx:Option Operand} {t:T} (ht:TiOk E) (h:Here E z n tick fr rt gh w FS a) (ho:o.op=.slice ty x lo hi mx)
  (he:(evOp E call me (St.val fr) tick d ty0 (.slice ty x lo hi mx)).run rt=some e) (hg:globOf E ty x lo hi mx=some t):Says E z tick rt gh w FS d e (execOp a.eval o):=by
 simp only[evOp,hg,Rd.run,Option.some.injEq] at he
 subst he
 cases x<;>simp only[globOf,reduceCtorEq] at hg
 rename_i g
 split at hg<;>try (simp at hg;done)
 rename_i hc
 obtain⟨c1,c2,c3⟩:=hc
 obtain rfl:lo=none:=by cases lo<;>simp at c1 ⊢
 obtain rfl:hi=none:=by cases hi<;>simp at c2 ⊢
 obtain rfl:mx=none:=by cases mx<;>simp at c3 ⊢
 split at hg<;>try (simp at hg;done)
 rename_i p hp
 obtain⟨el,rows⟩:=p
 split at hg<;>try (simp at hg;done)
 rename_i ie hie
 split at hg<;>try (simp at hg;done)
 rename_i hc
 obtain⟨c1,c2⟩:=hc
 simp only[Option.some.injEq] at hg
 subst hg
 have hu:=run_isArr c1
 have hs:=(ht _ _ hie).size w
 have hsz:szOf E el=ie.size:=by simp[szOf,hie]
 obtain⟨g1,arr,elt,fz,g2,g3⟩:=h.heap.gok g _ (theArr_gl g el rows hp)
 have hev:a.eval (.global g)=.pointer (some ⟨g,0,none⟩):=rfl
 have hb:(Instr.sliceBounds false rows.length rows.length none none none).run E.P w=.ok (0,rows.length,rows.length) w:=by simp[Instr.sliceBounds,Sem.run_bind]
 have hrun:(execOp a.eval o).run E.P w=.ok (.value (.slice (some ⟨g,0,none⟩) rows.length rows.length)) w:=by
  simp only[execOp,ho,hev,Instr.sliceAt,Option.map_none,Sem.run_bind,run_underlying hu,Result.andThen_ok]
  have hs':(sizeOf el).run E.P w=.ok ie.size w:=hs
  have ha:(Instr.sureAddr (.pointer (some ⟨g,0,none⟩))).run E.P w=.ok ⟨g,0,none⟩ w:=by rfl
  simp[Sem.run_bind,hb,hs',ha,Addr.add]
 refine says_quiet h hrun (t:=.sl el (rows.map (·.map T.v))) ?_ trivial
 show okV (szOf E) w.heap (Inow z w (FS++[])) (.sl el (rows.map (·.map T.v))) _ []
 simp only[okV,true_and]
 refine⟨_,rows.length,by rw[List.length_map],by rw[List.length_map];omega,.inr ⟨g,0,arr,elt,fz,rfl,g1,g2,?_⟩⟩
 rw[List.drop_zero,g3,hsz]
 exact okEs_rowsV fun r hr=>by simpa using List.all_eq_true.1 c2 r hr
theorem op_slice_quiet {ty:TypeId} {x:Operand} {lo hi mx:Option Operand} (ht:TiOk E) (h:Here E z n tick fr rt gh w FS a) (ho:o.op=.slice ty x lo hi mx)
  (he:(evOp E call me (St.val fr) tick d ty0 (.slice ty x lo hi mx)).run rt=some e) (hm:mx=none) (hg:globOf E ty x lo hi mx=none) (hnr:∀ d' ver path c n,St.val fr x≠some (.ref d' ver path c n)):
  Says E z tick rt gh w FS d e (execOp a.eval o):=by
 subst hm
 simp only[evOp,hg] at he
 obtain⟨t,h1,he1⟩:=run_bind he
 obtain⟨tl,h2,he2⟩:=run_bind he1
 obtain⟨th,h3,he3⟩:=run_bind he2
 obtain⟨tm,h4,he4⟩:=run_bind he3
 clear he he1 he2 he3
 have hx:=run_of h1
 clear h1
 obtain⟨k1,k2⟩:=h.frame.val hx
 simp only[Option.toList,args,Rd.run,Option.some.injEq] at h4;subst h4
 split at he4
 ·rename_i s
  obtain⟨lo',g1,he5⟩:=run_bind he4
  obtain⟨hi',g2,he6⟩:=run_bind he5
  simp only[List.isEmpty_nil,if_true] at he6
  obtain⟨q1,_⟩:=args_ok h.frame h2
  obtain⟨q2,_⟩:=args_ok h.frame h3
  have r1:=valsOf_X (run_of g1) q1
  have r2:=valsOf_X (run_of g2) q2
  have e1:lo.map a.eval=lo'.head?:=by rw[←r1];cases lo<;>rfl
  have e2:hi.map a.eval=hi'.head?:=by rw[←r2];cases hi<;>rfl
  have:=plain_ok (d:=d) h he6
  simpa only[execOp,ho,okX_v.1 k1,e1,e2,Option.map_none] using this
 ·rename_i el es
  obtain⟨i,g1,he5⟩:=run_bind he4
  obtain⟨l,g2,he6⟩:=run_bind he5
  obtain⟨hh,g3,he7⟩:=run_bind he6
  clear he4 he5 he6
  split at he7
  ·simp[Rd.run] at he7
  ·rename_i hel
   simp only[ne_eq,Decidable.not_not] at hel
   have hu:=(ht _ _ (run_of g1)).elem el hel
   obtain⟨inf,zz,i1,i2,_⟩:=(ht _ _ (run_of g1)).info
   have k1':okV (szOf E) w.heap (Inow z w (FS++[])) (.sl el es) (a.eval x) []:=k1
   simp only[okV,true_and] at k1'
   obtain⟨ad,cap,hv,hcap,r1⟩:=k1'
   split at he7
   ·rename_i hc
    obtain⟨_,c1,c2,c3⟩:=hc
    simp only[Rd.run,Option.some.injEq] at he7;subst he7
    have hl:(lo.map a.eval=none∧l=0)∨∃ k,lo.map a.eval=some (.int k l):=by
     rcases bound_ok h.frame h2 (run_of g2) with⟨rfl,rfl⟩ | ⟨xo,k,rfl,hk⟩
     ·exact .inl ⟨rfl,rfl⟩
     ·exact .inr ⟨k,by simp[hk]⟩
    have hhi:(hi.map a.eval=none∧hh=es.length)∨∃ k,hi.map a.eval=some (.int k hh):=by
     rcases bound_ok h.frame h3 (run_of g3) with⟨rfl,rfl⟩ | ⟨xo,k,rfl,hk⟩
     ·exact .inl ⟨rfl,rfl⟩
     ·exact .inr ⟨k,by simp[hk]⟩
    have hb:=sliceBounds2 (P:=E.P) hl hhi c1 c2 c3 hcap w
    obtain⟨m,hm⟩:=szE ht (run_of g1) hel w
    have hrun:(execOp a.eval o).run E.P w=.ok (.value (.slice (if cap=l.toNat then ad else ad.map (·.add (l.toNat*m))) (hh.toNat - l.toNat) (cap - l.toNat))) w:=by
     simp only[execOp,ho,hv,Instr.sliceAt,Option.map_none,Sem.run_bind,run_underlying hu,Result.andThen_ok,Instr.slice,hb,hm.1]
     rfl
    have hlen:((es.drop l.toNat).take (hh.toNat - l.toNat)).length=hh.toNat - l.toNat:=by
     rw[List.length_take,List.length_drop];omega
    refine says_quiet h hrun (t:=.sl el ((es.drop l.toNat).take (hh.toNat - l.toNat))) ?_ trivial
    show okV (szOf E) w.heap (Inow z w (FS++[])) (.sl el ((es.drop l.toNat).take (hh.toNat - l.toNat))) _ []
    simp only[okV,true_and]
    refine⟨_,cap - l.toNat,by rw[hlen],by rw[hlen];omega,?_⟩
    by_cases hemp:(es.drop l.toNat).take (hh.toNat - l.toNat)=[]
    ·exact .inl hemp
    ·right
     have hpos:0<((es.drop l.toNat).take (hh.toNat - l.toNat)).length:=List.length_pos_iff.2 hemp
     rw[hlen] at hpos
     rcases r1 with rfl | ⟨b,o',arr,elt,fz,rfl,q1,q2,q3⟩
     ·simp at hemp
     ·refine⟨b,o'+l.toNat*szOf E el,arr,elt,fz,?_,q1,q2,?_⟩
      ·rw[if_neg (by omega),hm.2]
       simp only[Option.map_some,addr_add]
      ·have:=okEs_take (hh.toNat - l.toNat) (okEs_drop l.toNat q3)
       rwa[List.drop_drop] at this
   ·split at he7
    ·rename_i hc
     obtain⟨_,c1,_,_,c4⟩:=hc
     simp only[boundOf,Option.some.injEq] at c4
     omega
    ·simp[Rd.run] at he7
 ·obtain⟨lo',g1,he5⟩:=run_bind he4
  obtain⟨hi',g2,he6⟩:=run_bind he5
  simp only[List.isEmpty_nil,if_true] at he6
  obtain⟨q1,_⟩:=args_ok h.frame h2
  obtain⟨q2,_⟩:=args_ok h.frame h3
  have r1:=valsOf_X (run_of g1) q1
  have r2:=valsOf_X (run_of g2) q2
  have e1:lo.map a.eval=lo'.head?:=by rw[←r1];cases lo<;>rfl
  have e2:hi.map a.eval=hi'.head?:=by rw[←r2];cases hi<;>rfl
  have:=plain_ok (d:=d) h he6
  simpa only[execOp,ho,okX_v.1 k1,e1,e2,Option.map_none] using this
 ·exact absurd hx (hnr _ _ _ _ _)
 ·simp[Rd.run] at he4
end quiet
def okMix (x:Cx) (S:Nat→Nat→Prop):List T→List Value→List Nat→Prop
 | [],us,fs=>us=[]∧fs=[]
 | c::cs,us,fs=>∃ u us' f1 f2,us=u::us'∧fs=f1++f2∧(isOwn c=true→okV x.sz x.h x.I c u f1)∧
   (isOwn c=false→f1=[]∧∀ d v p k,okX0 x (view1 d v p k c) u∧st0 S (view1 d v p k c))∧okMix x S cs us' f2
theorem okMix_of_L {x:Cx} {S}:∀ {cs us f},okL x.sz x.h x.I cs us f→∃ f',(∀ b,f'.count b≤f.count b)∧okMix x S cs us f'
 | [],us,f,hk=>by simp only[okL] at hk;exact⟨[],fun b=>by simp,hk.1,rfl⟩
 | c::cs,us,f,hk=>by
  simp only[okL] at hk
  obtain⟨u,us',f1,f2,rfl,rfl,h1,h2⟩:=hk
  obtain⟨f',g1,g2⟩:=okMix_of_L (S:=S) h2
  cases hc:isOwn c with
  | true=>exact⟨f1++f',fun b=>by have:=g1 b;simp only[List.count_append];omega,u,us',f1,f',rfl,rfl,fun _=>h1,fun h=>by rw[hc] at h;simp at h,g2⟩
  | false=>
   refine⟨f',fun b=>by have:=g1 b;simp only[List.count_append];omega,u,us',[],f',rfl,rfl,fun h=>by rw[hc] at h;simp at h,fun _=>⟨rfl,fun d v p k=>?_⟩,g2⟩
   cases c with
   | agg _=>exact⟨by show okV x.sz x.h x.I .dead u [];simp[okV],trivial⟩
   | tup _=>exact⟨by show okV x.sz x.h x.I .dead u [];simp[okV],trivial⟩
   | obx _=>exact⟨by show okV x.sz x.h x.I .dead u [];simp[okV],trivial⟩
   | own _ _=>simp[isOwn] at hc
   | _=>
    have:=okV_cell h1 rfl rfl
    subst this
    exact okV_0 h1
theorem okMix_root {x:Cx} {S}:∀ {cs us f},okMix x S cs us f→okL x.sz x.h x.I (cs.map bare) us f
 | [],us,f,h=>by simp only[okMix] at h;simpa[okL] using h
 | c::cs,us,f,h=>by
  simp only[okMix] at h
  obtain⟨u,us',f1,f2,rfl,rfl,h1,h2,h3⟩:=h
  simp only[List.map_cons,okL]
  refine⟨u,us',f1,f2,rfl,rfl,?_,okMix_root h3⟩
  cases hc:isOwn c with
  | true=>cases c<;>simp only[isOwn] at hc<;>first | exact h1 rfl | simp at hc
  | false=>
   obtain⟨rfl,_⟩:=h2 hc
   cases c<;>simp only[isOwn] at hc<;>first | (simp at hc;done) | simp[bare,okV]
structure Rooted (y:Cx) (d tick:Nat) (cells:List T) (vals:List Value):Prop where
 root:∀ r,lk y.rt d=some r→r.hver=tick→r.cells=cells
 vals:(y.gh d).vals=vals
theorem okMix_view {x y:Cx} {S S':Nat→Nat→Prop} {d tick:Nat} {cells:List T} {vals:List Value} (kp:Keeps x y S) (hS:∀ a b,S a b→S' a b) (R:Rooted y d tick cells vals):
  ∀ {cs us f} (k:Nat),okMix x S cs us f→(anyOwn cs=true→S' d tick)→(∀ j t,cs[j]?=some t→cells[k+j]?=some (bare t))→(∀ j u,us[j]?=some u→vals[k+j]?=some u)→
   All2 (okX0 y) (viewFrom d tick [] k cs) us∧∀ t,t∈viewFrom d tick [] k cs→st0 S' t
 | [],us,f,k,h,_,_,_=>by simp only[okMix] at h;exact⟨h.1,fun t ht=>by simp[viewFrom] at ht⟩
 | c::cs,us,f,k,h,ha,hc,hu=>by
  simp only[okMix] at h
  obtain⟨u,us',f1,f2,rfl,rfl,h1,h2,h3⟩:=h
  obtain⟨g1,g2⟩:=okMix_view kp hS R (k+1) h3 (fun h=>ha (by simp[anyOwn,h])) (fun j t hj=>by have:=hc (j+1) t (by simpa using hj);(have e:k+(j+1)=k+1+j:=by omega);rwa[e] at this)
   (fun j v hj=>by have:=hu (j+1) v (by simpa using hj);(have e:k+(j+1)=k+1+j:=by omega);rwa[e] at this)
  have key:okX0 y (view1 d tick [] k c) u∧st0 S' (view1 d tick [] k c):=by
   cases hcc:isOwn c with
   | true=>
    have hv:=h1 hcc
    cases c<;>simp only[isOwn] at hcc<;>try (simp at hcc;done)
    rename_i e es
    refine⟨⟨?_,?_⟩,ha (by simp[anyOwn,isOwn])⟩
    ·simp only[okV] at hv
     rcases hv with⟨rfl,_,a,rfl⟩ | ⟨b,o,cap,arr,el,fz,fs',rfl,_⟩
     ·exact⟨a,0,rfl⟩
     ·exact⟨_,_,rfl⟩
    ·intro r q1 q2 cs' vs' ad q3 e' es' q4 q5
     simp only[loc,Option.some.injEq,Prod.mk.injEq] at q3
     obtain⟨rfl,rfl,_⟩:=q3
     rw[R.vals]
     simpa using hu 0 u (by simp)
   | false=>
    obtain⟨_,h4⟩:=h2 hcc
    obtain⟨q1,q2⟩:=h4 d tick [] k
    refine⟨kp.x0 q2 q1,?_⟩
    cases hv:view1 d tick [] k c<;>rw[hv] at q2<;>first | exact trivial | exact hS _ _ q2
  refine⟨⟨u,us',rfl,key.1,g1⟩,fun t ht=>?_⟩
  simp only[viewFrom] at ht
  rcases List.mem_cons.1 ht with rfl | ht
  ·exact key.2
  ·exact g2 t ht
theorem okMix_view0 {x y:Cx} {S S':Nat→Nat→Prop} {d tick:Nat} (kp:Keeps x y S) (hS:∀ a b,S a b→S' a b):
  ∀ {cs us f} (k:Nat),okMix x S cs us f→anyOwn cs=false→All2 (okX0 y) (viewFrom d tick [] k cs) us∧∀ t,t∈viewFrom d tick [] k cs→st0 S' t
 | [],us,f,k,h,_=>by simp only[okMix] at h;exact⟨h.1,fun t ht=>by simp[viewFrom] at ht⟩
 | c::cs,us,f,k,h,ha=>by
  simp only[okMix] at h
  obtain⟨u,us',f1,f2,rfl,rfl,h1,h2,h3⟩:=h
  simp only[anyOwn,Bool.or_eq_false_iff] at ha
  obtain⟨g1,g2⟩:=okMix_view0 kp hS (d:=d) (tick:=tick) (k+1) h3 ha.2
  obtain⟨_,h4⟩:=h2 ha.1
  obtain⟨q1,q2⟩:=h4 d tick [] k
  refine⟨⟨u,us',rfl,kp.x0 q2 q1,g1⟩,fun t ht=>?_⟩
  simp only[viewFrom] at ht
  rcases List.mem_cons.1 ht with rfl | ht
  ·cases hv:view1 d tick [] k c<;>rw[hv] at q2<;>first | exact trivial | exact hS _ _ q2
  ·exact g2 t ht
theorem okMix_kp {x y:Cx} {S:Nat→Nat→Prop} (kp:Keeps x y S):∀ {cs us f},(∀ b,b∈f→y.h[b]?=x.h[b]?)→okMix x S cs us f→okMix y S cs us f
 | [],us,f,_,h=>h
 | c::cs,us,f,hf,h=>by
  simp only[okMix] at h ⊢
  obtain⟨u,us',f1,f2,rfl,rfl,h1,h2,h3⟩:=h
  exact⟨u,us',f1,f2,rfl,rfl,fun hc=>by rw[kp.sz];exact okV_agree ⟨kp.old,fun b hb=>hf b (by simp[hb])⟩ (h1 hc),
   fun hc=>⟨(h2 hc).1,fun d v p k=>⟨kp.x0 ((h2 hc).2 d v p k).2 ((h2 hc).2 d v p k).1,((h2 hc).2 d v p k).2⟩⟩,okMix_kp kp (fun b hb=>hf b (by simp[hb])) h3⟩
def rtUp (rt:List (Nat×Root)) (d:Nat):Option Root→List (Nat×Root)
 | none=>rt
 | some r=>up rt d r
theorem Stm_new {tick:Nat} {rt:List (Nat×Root)} {d:Nat} {r:Root} (hv:r.ver=tick):(∀ a b,Stm tick rt a b→Stm tick (up rt d r) a b)∧Stm tick (up rt d r) d tick:=by
 refine⟨fun a b h=>⟨h.1,fun hb=>?_⟩,Nat.le_refl _,fun _=>⟨r,lk_up_self _ _ _,hv⟩⟩
 obtain⟨r0,h1,h2⟩:=h.2 hb
 by_cases hd:a=d
 ·subst hd;exact⟨r,lk_up_self _ _ _,hv⟩
 ·exact⟨r0,by rw[lk_up_ne _ _ _ _ hd];exact h1,h2⟩
def Slot (sz:TypeId→Nat) (z:Zn) (tick d:Nat) (rt:List (Nat×Root)) (gh:Nat→G) (w:World) (I:Nat→Prop) (e:Eff) (u:Value):Prop:=
 ∃ gh' FS',HRel sz z (rtUp rt d e.root) gh' w FS' []∧
  Keeps ⟨sz,w.heap,I,rt,gh⟩ ⟨sz,w.heap,Inow z w (FS'++[]),rtUp rt d e.root,gh'⟩ (Stm tick rt)∧
  okX ⟨sz,w.heap,Inow z w (FS'++[]),rtUp rt d e.root,gh'⟩ e.val u∧stX (Stm tick (rtUp rt d e.root)) e.val
theorem drop_floats {sz z rt gh w FS X} (r:HRel sz z rt gh w FS X):HRel sz z rt gh w FS []∧∀ b,Inow z w (FS++X) b→Inow z w (FS++[]) b:=
 ⟨r.same fun x=>by simp,fun b hb=>r.imm_grow (Nat.le_refl _) (fun b hb=>.inl (by simp at hb;simp[hb])) hb⟩
theorem fewer_floats {sz z rt gh w FS X X'} (r:HRel sz z rt gh w FS X) (h:∀ x,X'.count x≤X.count x):HRel sz z rt gh w FS X'∧∀ b,Inow z w (FS++X) b→Inow z w (FS++X') b:=by
 refine⟨r.same h,fun b hb=>r.imm_grow (Nat.le_refl _) (fun b hb=>.inl ?_) hb⟩
 simp only[List.mem_append] at hb ⊢
 rcases hb with hb | hb
 ·exact .inl hb
 ·right
  have:=List.count_pos_iff.2 hb
  have:=h b
  rw[←List.count_pos_iff];omega
theorem slot_mix {sz z rt gh w FS f cs us} {tick d:Nat} (r:HRel sz z rt gh w FS (f++[])) (hk:okMix ⟨sz,w.heap,Inow z w (FS++(f++[])),rt,gh⟩ (Stm tick rt) cs us f)
  (hn:anyOwn cs=true→∀ r0,lk rt d=some r0→r0.ver<tick):
  ∃ gh' FS',HRel sz z (rtUp rt d (if anyOwn cs then some ⟨tick,tick,false,cs.map bare⟩ else none)) gh' w FS' []∧
   Keeps ⟨sz,w.heap,Inow z w (FS++(f++[])),rt,gh⟩ ⟨sz,w.heap,Inow z w (FS'++[]),rtUp rt d (if anyOwn cs then some ⟨tick,tick,false,cs.map bare⟩ else none),gh'⟩ (Stm tick rt)∧
   (∀ a b,Stm tick rt a b→Stm tick (rtUp rt d (if anyOwn cs then some ⟨tick,tick,false,cs.map bare⟩ else none)) a b)∧
   (anyOwn cs=true→Stm tick (rtUp rt d (if anyOwn cs then some ⟨tick,tick,false,cs.map bare⟩ else none)) d tick)∧
   (anyOwn cs=true→Rooted ⟨sz,w.heap,Inow z w (FS'++[]),rtUp rt d (if anyOwn cs then some ⟨tick,tick,false,cs.map bare⟩ else none),gh'⟩ d tick (cs.map bare) us):=by
 cases ha:anyOwn cs with
 | true=>
  simp only[if_true,rtUp]
  obtain⟨FS',h1,h2⟩:=HRel.lay (r1:=⟨tick,tick,false,cs.map bare⟩) (g:=⟨none,us⟩) (tick:=tick) (d:=d) r rfl rfl (hn ha) ⟨rfl,okMix_root hk⟩
  obtain⟨s1,s2⟩:=Stm_new (tick:=tick) (rt:=rt) (d:=d) (r:=⟨tick,tick,false,cs.map bare⟩) rfl
  exact⟨_,FS',h1,h2,s1,fun _=>s2,fun _=>⟨fun r q _=>by rw[lk_up_self] at q;simp only[Option.some.injEq] at q;rw[←q],by simp[gset]⟩⟩
 | false=>
  simp only[Bool.false_eq_true,if_false,rtUp]
  obtain⟨h1,h2⟩:=drop_floats r
  exact⟨gh,FS,h1,r.keeps_refl _ h2,fun a b h=>h,fun h=>by simp at h,fun h=>by simp at h⟩
theorem bare_map {cs:List T}:∀ j t,cs[j]?=some t→(cs.map bare)[0+j]?=some (bare t):=fun j t h=>by simp[h]
theorem slot_agg {sz z rt gh w FS f cs us} {tick d:Nat} (r:HRel sz z rt gh w FS (f++[])) (hk:okMix ⟨sz,w.heap,Inow z w (FS++(f++[])),rt,gh⟩ (Stm tick rt) cs us f)
  (hn:anyOwn cs=true→∀ r0,lk rt d=some r0→r0.ver<tick):Slot sz z tick d rt gh w (Inow z w (FS++(f++[]))) (rooted d tick (.agg cs)) (.agg us.toArray):=by
 obtain⟨gh',FS',h1,h2,h3,h4,h5⟩:=slot_mix (d:=d) r hk hn
 have e1:(rooted d tick (.agg cs)).root=if anyOwn cs then some ⟨tick,tick,false,cs.map bare⟩ else none:=by simp only[rooted];split<;>rfl
 have e2:(rooted d tick (.agg cs)).val=.agg (viewFrom d tick [] 0 cs):=by simp only[rooted];split<;>rfl
 refine⟨gh',FS',by rw[e1];exact h1,by rw[e1];exact h2,?_⟩
 rw[e1,e2]
 cases ha:anyOwn cs with
 | true=>
  rw[ha] at h1 h2 h3 h4 h5
  obtain⟨g1,g2⟩:=okMix_view h2 h3 (h5 rfl) 0 hk (fun _=>h4 rfl) bare_map (fun j u h=>by simpa using h)
  exact⟨⟨us,rfl,g1⟩,g2⟩
 | false=>
  rw[ha] at h1 h2 h3 h4 h5
  obtain⟨g1,g2⟩:=okMix_view0 h2 h3 (d:=d) (tick:=tick) 0 hk ha
  exact⟨⟨us,rfl,g1⟩,g2⟩
theorem slot_own {sz z rt gh w FS f e es u} {tick d:Nat} (r:HRel sz z rt gh w FS (f++[])) (hk:okV sz w.heap (Inow z w (FS++(f++[]))) (.own e es) u f)
  (hn:∀ r0,lk rt d=some r0→r0.ver<tick):Slot sz z tick d rt gh w (Inow z w (FS++(f++[]))) (rooted d tick (.own e es)) u:=by
 have hm:okMix ⟨sz,w.heap,Inow z w (FS++(f++[])),rt,gh⟩ (Stm tick rt) [.own e es] [u] f:=⟨u,[],f,[],rfl,by simp,fun _=>hk,fun h=>by simp[isOwn] at h,rfl,rfl⟩
 obtain⟨gh',FS',h1,h2,h3,h4,h5⟩:=slot_mix (d:=d) r hm (fun _=>hn)
 have ha:anyOwn [.own e es]=true:=rfl
 rw[ha] at h1 h2 h3 h4 h5
 obtain⟨g1,g2⟩:=okMix_view h2 h3 (h5 rfl) 0 hm (fun _=>h4 rfl) bare_map (fun j u h=>by simpa using h)
 obtain⟨u',us',q1,q2,q3⟩:=g1
 simp only[List.cons.injEq] at q1
 obtain⟨rfl,_⟩:=q1
 obtain⟨m1,m2⟩:=lift02 q2 (g2 _ (by simp[viewFrom]))
 exact⟨gh',FS',h1,h2,m1,m2⟩
theorem tup_flat {sz h I} {S:Nat→Nat→Prop}:∀ {ts:List T} {us f},okL sz h I ts us f→∃ vals,okL sz h I (tupCells ts) vals f∧
  ∀ {x y:Cx} {S':Nat→Nat→Prop} {d tick:Nat} (cells0:List T) (vals0:List Value) (k:Nat),x.sz=sz→x.h=h→x.I=I→Keeps x y S→(∀ a b,S a b→S' a b)→
   (anyOwn (tupCells ts)=true→S' d tick∧Rooted y d tick cells0 vals0)→
   (∀ j t,(tupCells ts)[j]?=some t→cells0[k+j]?=some (bare t))→(∀ j u,vals[j]?=some u→vals0[k+j]?=some u)→
   All2 (okX1 y) (tupView d tick k ts) us∧∀ t,t∈tupView d tick k ts→st1 S' t
 | [],us,f,hk=>by
  simp only[okL] at hk
  refine⟨[],by simp[tupCells,okL,hk.2],fun {x y S' d tick} cells0 vals0 k _ _ _ _ _ _ _ _=>⟨hk.1,fun t ht=>by simp[tupView] at ht⟩⟩
 | t::ts,us,f,hk=>by
  simp only[okL] at hk
  obtain⟨u,us',f1,f2,rfl,rfl,h1,h2⟩:=hk
  obtain⟨vals,g1,g2⟩:=tup_flat (S:=S) h2
  have main:∃ vs,okL sz h I t.cells vs f1∧∀ {x y:Cx} {S':Nat→Nat→Prop} {d tick:Nat} (cells0:List T) (vals0:List Value) (k:Nat),x.sz=sz→x.h=h→x.I=I→Keeps x y S→(∀ a b,S a b→S' a b)→
   (anyOwn t.cells=true→S' d tick∧Rooted y d tick cells0 vals0)→
   (∀ j c,t.cells[j]?=some c→cells0[k+j]?=some (bare c))→(∀ j u,vs[j]?=some u→vals0[k+j]?=some u)→
   ∃ t',(∀ ts',tupView d tick k (t::ts')=t'::tupView d tick (k+t.cells.length) ts')∧okX1 y t' u∧st1 S' t':=by
   by_cases hagg:∃ cs,t=.agg cs
   ·obtain⟨cs,rfl⟩:=hagg
    simp only[okV] at h1
    obtain⟨vs,rfl,hL⟩:=h1
    refine⟨vs,hL,fun {x y S' d tick} cells0 vals0 k e1 e2 e3 kp hS ha hc hu=>⟨.agg (viewFrom d tick [] k cs),fun ts'=>rfl,?_⟩⟩
    subst e1;subst e2;subst e3
    obtain⟨f',q1,q2⟩:=okMix_of_L (S:=S) hL
    cases hb:anyOwn cs with
    | true=>
     obtain⟨a1,a2⟩:=ha hb
     obtain⟨m1,m2⟩:=okMix_view kp hS a2 k q2 (fun _=>a1) hc hu
     exact⟨⟨vs,rfl,m1⟩,m2⟩
    | false=>
     obtain⟨m1,m2⟩:=okMix_view0 kp hS (d:=d) (tick:=tick) k q2 hb
     exact⟨⟨vs,rfl,m1⟩,m2⟩
   ·have hcells:t.cells=[t]:=by cases t<;>first | rfl | exact absurd ⟨_,rfl⟩ hagg
    have hL:okL sz h I [t] [u] f1:=okL_one.2 h1
    rw[hcells]
    refine⟨[u],hL,fun {x y S' d tick} cells0 vals0 k e1 e2 e3 kp hS ha hc hu=>⟨view1 d tick [] k t,fun ts'=>?_,?_⟩⟩
    ·cases t<;>first | rfl | exact absurd ⟨_,rfl⟩ hagg
    ·subst e1;subst e2;subst e3
     obtain⟨f',q1,q2⟩:=okMix_of_L (S:=S) hL
     have key:All2 (okX0 y) (viewFrom d tick [] k [t]) [u]∧∀ c,c∈viewFrom d tick [] k [t]→st0 S' c:=by
      cases hb:anyOwn [t] with
      | true=>
       obtain⟨a1,a2⟩:=ha hb
       exact okMix_view kp hS a2 k q2 (fun _=>a1) hc hu
      | false=>exact okMix_view0 kp hS k q2 hb
     obtain⟨⟨u',us',p1,p2,p3⟩,p4⟩:=key
     simp only[List.cons.injEq] at p1
     obtain⟨rfl,_⟩:=p1
     exact lift01 p2 (p4 _ (by simp[viewFrom]))
  obtain⟨vs,m1,m2⟩:=main
  have happ:∀ {c1 c2 u1 u2 f1 f2},okL sz h I c1 u1 f1→okL sz h I c2 u2 f2→okL sz h I (c1++c2) (u1++u2) (f1++f2):=by
   intro c1
   induction c1 with
   | nil=>intro c2 u1 u2 f1 f2 h1 h2;simp only[okL] at h1;obtain⟨rfl,rfl⟩:=h1;simpa using h2
   | cons c c1 ih=>
    intro c2 u1 u2 f1 f2 h1 h2
    simp only[okL] at h1
    obtain⟨u,us',f3,f4,rfl,rfl,h3,h4⟩:=h1
    simp only[List.cons_append,okL]
    exact⟨u,us'++u2,f3,f4++f2,rfl,by simp,h3,ih h4 h2⟩
  have hlen:vs.length=t.cells.length:=okL_length m1
  have hany:∀ {c1 c2:List T},anyOwn (c1++c2)=(anyOwn c1||anyOwn c2):=by
   intro c1
   induction c1 with
   | nil=>intro c2;rfl
   | cons c c1 ih=>intro c2;simp only[List.cons_append,anyOwn,ih,Bool.or_assoc]
  refine⟨vs++vals,happ m1 g1,fun {x y S' d tick} cells0 vals0 k e1 e2 e3 kp hS ha hc hu=>?_⟩
  obtain⟨t',p1,p2,p3⟩:=m2 cells0 vals0 k e1 e2 e3 kp hS (fun h=>ha (by simp only[tupCells,hany,h,Bool.true_or]))
   (fun j c hj=>hc j c (by
    have:j<t.cells.length:=(List.getElem?_eq_some_iff.1 hj).1
    simp only[tupCells];rw[List.getElem?_append_left this];exact hj))
   (fun j v hj=>hu j v (by
    have:j<vs.length:=(List.getElem?_eq_some_iff.1 hj).1
    rw[List.getElem?_append_left this];exact hj))
  obtain⟨p4,p5⟩:=g2 cells0 vals0 (k+t.cells.length) e1 e2 e3 kp hS (fun h=>ha (by simp only[tupCells,hany,h,Bool.or_true]))
   (fun j c hj=>by
    have:=hc (t.cells.length+j) c (by simp only[tupCells];rw[List.getElem?_append_right (by omega)];simpa using hj)
    rwa[←Nat.add_assoc] at this)
   (fun j v hj=>by
    have:=hu (vs.length+j) v (by rw[List.getElem?_append_right (by omega)];simpa using hj)
    rwa[←Nat.add_assoc,hlen] at this)
  rw[p1]
  refine⟨⟨u,us',rfl,p2,p4⟩,fun c hc=>?_⟩
  rcases List.mem_cons.1 hc with rfl | hc
  ·exact p3
  ·exact p5 c hc
theorem slot_tup {sz z rt gh w FS f ts us} {tick d:Nat} (r:HRel sz z rt gh w FS (f++[])) (hk:okL sz w.heap (Inow z w (FS++(f++[]))) ts us f)
  (hn:anyOwn (tupCells ts)=true→∀ r0,lk rt d=some r0→r0.ver<tick):Slot sz z tick d rt gh w (Inow z w (FS++(f++[]))) (rooted d tick (.tup ts)) (.tuple us.toArray):=by
 obtain⟨vals,g1,g2⟩:=tup_flat (S:=Stm tick rt) hk
 obtain⟨f',q1,q2⟩:=okMix_of_L (x:=⟨sz,w.heap,Inow z w (FS++(f++[])),rt,gh⟩) (S:=Stm tick rt) g1
 obtain⟨r',hI⟩:=fewer_floats (X':=f'++[]) r (by simpa using q1)
 have q2':=okMix_kp (y:=⟨sz,w.heap,Inow z w (FS++(f'++[])),rt,gh⟩) (r.keeps_refl _ hI) (fun _ _=>rfl) q2
 obtain⟨gh',FS',h1,h2,h3,h4,h5⟩:=slot_mix (d:=d) r' q2' hn
 have e1:(rooted d tick (.tup ts)).root=if anyOwn (tupCells ts) then some ⟨tick,tick,false,(tupCells ts).map bare⟩ else none:=by simp only[rooted];split<;>rfl
 have e2:(rooted d tick (.tup ts)).val=.tup (tupView d tick 0 ts):=by simp only[rooted];split<;>rfl
 have kp:=(r.keeps_refl (Stm tick rt) hI).trans h2 fun a b h=>h
 refine⟨gh',FS',by rw[e1];exact h1,by rw[e1];exact kp,?_⟩
 rw[e1,e2]
 obtain⟨m1,m2⟩:=g2 ((tupCells ts).map bare) vals 0 rfl rfl rfl kp h3 (fun h=>⟨h4 h,h5 h⟩) bare_map (fun j u h=>by simpa using h)
 exact⟨⟨us,rfl,m1⟩,m2⟩
theorem slot_plain {sz z rt gh w FS f t u} {tick d:Nat} (r:HRel sz z rt gh w FS (f++[])) (hk:okX0 ⟨sz,w.heap,Inow z w (FS++[]),rt,gh⟩ t u) (hs:st0 (Stm tick rt) t):
  Slot sz z tick d rt gh w (Inow z w (FS++(f++[]))) { val:=t } u:=by
 obtain⟨h1,h2⟩:=drop_floats r
 obtain⟨m1,m2⟩:=lift02 hk hs
 exact⟨gh,FS,h1,r.keeps_refl _ h2,m1,m2⟩
theorem slot_ok {sz z rt gh w FS f t u} {tick d:Nat} (r:HRel sz z rt gh w FS (f++[])) (hk:okV sz w.heap (Inow z w (FS++(f++[]))) t u f)
  (hn:(rooted d tick t).root.isSome=true→∀ r0,lk rt d=some r0→r0.ver<tick):Slot sz z tick d rt gh w (Inow z w (FS++(f++[]))) (rooted d tick t) u:=by
 have plain:okV sz w.heap (Inow z w (FS++(f++[]))) t u []→Slot sz z tick d rt gh w (Inow z w (FS++(f++[]))) { val:=t } u:=fun h=>by
  obtain⟨h1,h2⟩:=drop_floats r
  have:=okV_0 (x:=⟨sz,w.heap,Inow z w (FS++[]),rt,gh⟩) (S:=Stm tick rt) (okV_agree ⟨fun b hb=>⟨h2 b hb,rfl⟩,fun b hb=>by simp at hb⟩ h)
  exact slot_plain r this.1 this.2
 have dead:Slot sz z tick d rt gh w (Inow z w (FS++(f++[]))) { val:=.dead } u:=
  slot_plain r (by show okV sz w.heap (Inow z w (FS++[])) .dead u [];simp[okV]) trivial
 cases t with
 | own e es=>exact slot_own r hk (hn rfl)
 | agg cs=>
  simp only[okV] at hk
  obtain⟨us,rfl,hL⟩:=hk
  obtain⟨f',q1,q2⟩:=okMix_of_L (x:=⟨sz,w.heap,Inow z w (FS++(f++[])),rt,gh⟩) (S:=Stm tick rt) hL
  obtain⟨r',hI⟩:=fewer_floats (X':=f'++[]) r (by simpa using q1)
  have q2':=okMix_kp (y:=⟨sz,w.heap,Inow z w (FS++(f'++[])),rt,gh⟩) (r.keeps_refl _ hI) (fun _ _=>rfl) q2
  obtain⟨gh',FS',h1,h2,h3⟩:=slot_agg (d:=d) r' q2' (fun ha=>hn (by simp[rooted,ha]))
  exact⟨gh',FS',h1,(r.keeps_refl (Stm tick rt) hI).trans h2 fun a b h=>h,h3⟩
 | tup ts=>
  simp only[okV] at hk
  obtain⟨us,rfl,hL⟩:=hk
  exact slot_tup r hL (fun ha=>hn (by simp[rooted,ha]))
 | v x=>exact plain (by simp only[okV] at hk;simp[okV,hk.1])
 | sl e es=>
  have h0:f=[]:=by have hk2:=hk;simp only[okV] at hk2;exact hk2.1
  exact plain (by rw[h0] at hk ⊢;exact hk)
 | ipt cs=>
  have h0:f=[]:=by have hk2:=hk;simp only[okV] at hk2;exact hk2.1
  exact plain (by rw[h0] at hk ⊢;exact hk)
 | obx cs=>
  simp only[okV] at hk
  obtain⟨b,pre,vals,post,el,fz,fs',rfl,rfl,h3,h4,h5⟩:=hk
  obtain⟨FS',k1,k2⟩:=HRel.lay (tick:=tick) (d:=d) (g:=⟨some ⟨b,pre,post,el,fz⟩,vals⟩) (r1:=⟨tick,tick,true,cs⟩) r rfl rfl (hn rfl)
   ⟨rfl,fs',(pre++vals++post).toArray,rfl,h3,by simpa using h4,by simp,h5⟩
  refine⟨_,FS',k1,k2,⟨⟨_,rfl⟩,?_⟩,(Stm_new (tick:=tick) (r:=⟨tick,tick,true,cs⟩) rfl).2⟩
  intro r _ _
  exact⟨⟨b,pre,post,el,fz⟩,by simp[gset],by simp⟩
 | _=>exact dead
theorem rtOf_eq {tick rt d} {e:Eff}:rtOf tick rt d e=rtUp (setCells tick rt e.sets) d e.root:=by
 unfold rtOf rtUp;cases e.root<;>rfl
theorem setCell_ver {tick rt s d r} (h:lk (setCell tick rt s) d=some r):∃ r0,lk rt d=some r0∧r0.ver=r.ver:=by
 unfold setCell at h
 cases hs:lk rt s.d with
 | none=>rw[hs] at h;exact⟨r,h,rfl⟩
 | some r1=>
  rw[hs] at h
  by_cases hd:d=s.d
  ·subst hd
   rw[lk_up_self] at h
   simp only[Option.some.injEq] at h;subst h
   exact⟨r1,hs,rfl⟩
  ·rw[lk_up_ne _ _ _ _ hd] at h
   exact⟨r,h,rfl⟩
theorem setCells_ver {tick}:∀ {ss rt d r},lk (setCells tick rt ss) d=some r→∃ r0,lk rt d=some r0∧r0.ver=r.ver
 | [],rt,d,r,h=>⟨r,h,rfl⟩
 | s::ss,rt,d,r,h=>by
  simp only[setCells] at h
  obtain⟨r0,h1,h2⟩:=setCells_ver h
  obtain⟨r1,h3,h4⟩:=setCell_ver h1
  exact⟨r1,h3,h4.trans h2⟩
theorem newOk_lt {tick rt d} (h:newOk tick rt d=true) {ss r0} (h0:lk (setCells tick rt ss) d=some r0):r0.ver<tick:=by
 obtain⟨r1,h1,h2⟩:=setCells_ver h0
 unfold newOk at h
 rw[h1] at h
 simp only[decide_eq_true_eq] at h
 omega
section laid
variable {E:Env} {z:Zn} {n tick:Nat} {fr:List (Nat×T)} {rt:List (Nat×Root)} {gh:Nat→G} {w:World} {FS:List Nat} {a:Act}
variable {call:FuncId→List Arg→Option Res} {me:FuncId} {d:Nat} {ty0:TypeId} {e:Eff} {o:Oper}
theorem with_sets {e:Eff} {ss:List CSet}:(e.with ss).val=e.val∧(e.with ss).root=e.root∧(e.with ss).sets=e.sets++ss:=⟨rfl,rfl,rfl⟩
theorem rooted_sets {d tick t}:(rooted d tick t).sets=[]:=by
 cases t<;>simp only[rooted]<;>first | rfl | (split<;>rfl)
theorem says_slot {s:Sem Next} {u:Value} {w1:World} {gh1:Nat→G} {I1:Nat→Prop} {ss:List CSet} {e0:Eff} (hs:s.run E.P w=.ok (.value u) w1) (he:e.sets=ss) (hv:e.val=e0.val) (hr:e.root=e0.root)
  (kp:Keeps ⟨szOf E,w.heap,Inow z w (FS++[]),rt,gh⟩ ⟨szOf E,w1.heap,I1,setCells tick rt ss,gh1⟩ (Stm tick rt))
  (sl:Slot (szOf E) z tick d (setCells tick rt ss) gh1 w1 I1 e0 u):Says E z tick rt gh w FS d e s:=by
 unfold Says
 rw[hs]
 obtain⟨gh',FS',h1,h2,h3,h4⟩:=sl
 show Done _ _ _ _ _ _ _ _ _ _ _
 rw[rtOf_eq,he,hv,hr]
 exact⟨gh',FS',h1,kp.trans h2 fun a b h=>Stm_sets a b h,h3,h4⟩
theorem alloc_lay {zz rt1 gh1 FS1 f us cs} {sz:TypeId→Nat} {w:World} {el:TypeId} {X:List Nat} (r:HRel sz zz rt1 gh1 w FS1 (f++X)) (hk:okL sz w.heap (Inow zz w (FS1++(f++X))) cs us f)
  (hold:∀ r0,lk rt1 d=some r0→r0.ver<tick):
  ∃ gh' FS',HRel sz zz (up rt1 d ⟨tick,tick,true,cs⟩) gh' (w.alloc (.cells us.toArray el (0,0))) FS' X∧
   Keeps ⟨sz,w.heap,Inow zz w (FS1++(f++X)),rt1,gh1⟩ ⟨sz,(w.alloc (.cells us.toArray el (0,0))).heap,Inow zz (w.alloc (.cells us.toArray el (0,0))) (FS'++X),up rt1 d ⟨tick,tick,true,cs⟩,gh'⟩ (Stm tick rt1)∧
   (gh' d).blk=some ⟨w.heap.size,[],[],el,(0,0)⟩:=by
 obtain⟨h1,h2,h3,h4⟩:=r.alloc (.cells us.toArray el (0,0))
 have hlt:∀ b,b∈f→b<w.heap.size:=fun b hb=>r.lt b (by simp[hb])
 have hk':=okL_agree (h':=(w.alloc (.cells us.toArray el (0,0))).heap) (I':=Inow zz (w.alloc (.cells us.toArray el (0,0))) (FS1++(w.heap.size::(f++X))))
  ⟨fun b hb=>h2.old b hb,fun b hb=>h4 b (hlt b hb)⟩ hk
 have h1':HRel sz zz rt1 gh1 (w.alloc (.cells us.toArray el (0,0))) FS1 ((w.heap.size::f)++X):=h1
 obtain⟨FS',k1,k2⟩:=HRel.lay (tick:=tick) (d:=d) (g:=⟨some ⟨w.heap.size,[],[],el,(0,0)⟩,us⟩) (r1:=⟨tick,tick,true,cs⟩) h1' rfl rfl hold
  ⟨rfl,f,us.toArray,rfl,h3,fun i _ h=>by simp only at h;omega,by simp,hk'⟩
 exact⟨_,FS',k1,(h2.mono (S':=Stm tick rt1) fun _ _ _=>trivial).trans k2 fun _ _ h=>h,by simp[gset]⟩
theorem slot_var {sz zz rt1 gh1 FS1 f us cs} {w:World} {el:TypeId} (r:HRel sz zz rt1 gh1 w FS1 (f++[])) (hk:okL sz w.heap (Inow zz w (FS1++(f++[]))) cs us f)
  (hold:∀ r0,lk rt1 d=some r0→r0.ver<tick):
  ∃ gh' FS',HRel sz zz (up rt1 d ⟨tick,tick,true,cs⟩) gh' (w.alloc (.cells us.toArray el (0,0))) FS' []∧
   Keeps ⟨sz,w.heap,Inow zz w (FS1++(f++[])),rt1,gh1⟩ ⟨sz,(w.alloc (.cells us.toArray el (0,0))).heap,Inow zz (w.alloc (.cells us.toArray el (0,0))) (FS'++[]),up rt1 d ⟨tick,tick,true,cs⟩,gh'⟩ (Stm tick rt1)∧
   okX ⟨sz,(w.alloc (.cells us.toArray el (0,0))).heap,Inow zz (w.alloc (.cells us.toArray el (0,0))) (FS'++[]),up rt1 d ⟨tick,tick,true,cs⟩,gh'⟩ (.ptr d tick [] 0) (.pointer (some ⟨w.heap.size,0,none⟩))∧
   stX (Stm tick (up rt1 d ⟨tick,tick,true,cs⟩)) (.ptr d tick [] 0):=by
 obtain⟨gh',FS',h1,h2,h3⟩:=alloc_lay (el:=el) r hk hold
 refine⟨gh',FS',h1,h2,⟨⟨_,rfl⟩,?_⟩,(Stm_new (tick:=tick) (r:=⟨tick,tick,true,cs⟩) rfl).2⟩
 intro r _ _
 exact⟨⟨w.heap.size,[],[],el,(0,0)⟩,h3,rfl⟩
theorem run_newVar (P:Program) (w:World) (t:TypeId) (v:Value):(newVar t v).run P w=.ok ⟨w.heap.size,0,none⟩ (w.alloc (.cells v.cells t (0,0))):=rfl
theorem floats0 {sz z rt gh w FS} (r:HRel sz z rt gh w FS []):HRel sz z rt gh w FS ([]++[]):=r
theorem op_alloc {ty:TypeId} (ht:TiOk E) (h:Here E z n tick fr rt gh w FS a) (ho:o.op=.alloc ty) (hd:EffOk tick rt d e)
  (he:(evOp E call me (St.val fr) tick d ty0 (.alloc ty)).run rt=some e):
  Says E z tick rt gh w FS d e (execOp a.eval o):=by
 simp only[evOp] at he
 obtain⟨i,h1,he1⟩:=run_bind he
 simp only[Rd.run,Option.some.injEq] at he1
 obtain⟨zv,q1,q2,q3,q4⟩:=(ht _ _ (run_of h1)).zero
 have hnew:=hd.new _ (by rw[←he1])
 obtain⟨gh',FS',k1,k2,k3,k4⟩:=slot_var (d:=d) (tick:=tick) (el:=ty) (f:=[]) (floats0 h.heap) (q3 _ _) (fun r0 h0=>newOk_lt (ss:=[]) hnew h0)
 have hrun:(execOp a.eval o).run E.P w=.ok (.value (.pointer (some ⟨w.heap.size,0,none⟩))) (w.alloc (.cells zv.cells.toList.toArray ty (0,0))):=by
  simp only[execOp,ho,Instr.alloc,Sem.run_bind,q1,Result.andThen_ok,run_newVar,Array.toArray_toList]
  rfl
 unfold Says
 rw[hrun]
 subst he1
 exact⟨gh',FS',k1,k2,k3,k4⟩
theorem okX0_dead {x:Cx} {u:Value}:okX0 x .dead u:=by show okV x.sz x.h x.I .dead u [];simp[okV]
theorem part_cells {x:Cx} {S:Nat→Nat→Prop} {zero:List T} {t:T} {u:Value} (hk:okX x t u) (hs:stX S t) (hdead:t≠.dead):
  All2 (okX0 x) (partCells zero t) u.cells.toList∧∀ c,c∈partCells zero t→st0 S c:=by
 have one:∀ c,okX0 x c u→st0 S c→u.cells.toList=[u]→All2 (okX0 x) [c] u.cells.toList∧∀ c',c'∈[c]→st0 S c':=fun c h1 h2 h3=>by
  rw[h3]
  exact⟨⟨u,[],rfl,h1,rfl⟩,fun c' hc=>by simp only[List.mem_singleton] at hc;rw[hc];exact h2⟩
 unfold partCells
 split
 ·have hu:=okX_v.1 hk
  subst hu
  split
  ·exact one _ (by show okV x.sz x.h x.I (.own _ []) _ [];simp[okV]) trivial rfl
  ·exact one _ (by show okV x.sz x.h x.I (.v _) _ [];simp[okV]) trivial rfl
 ·rename_i xs
  have hu:=okX_v.1 hk
  subst hu
  show All2 (okX0 x) (xs.toList.map .v) xs.toList∧_
  refine⟨?_,fun c hc=>by obtain⟨v,_,rfl⟩:=List.mem_map.1 hc;trivial⟩
  generalize xs.toList=l
  induction l with
  | nil=>rfl
  | cons v l ih=>exact⟨v,l,rfl,by show okV x.sz x.h x.I (.v v) v [];simp[okV],ih⟩
 ·obtain⟨us,rfl,h2⟩:=hk
  exact⟨h2,hs⟩
 ·obtain⟨us,rfl,h2⟩:=hk
  exact one _ okX0_dead trivial rfl
 ·obtain⟨us,rfl,h2⟩:=hk
  exact one _ okX0_dead trivial rfl
 ·rename_i h1 h2 h3 h4 h5
  have hx:okX0 x t u∧st0 S t∧u.cells.toList=[u]:=by
   cases t with
   | v v=>
    have hu:=okX_v.1 hk
    subst hu
    refine⟨by show okV x.sz x.h x.I (.v u) u [];simp[okV],trivial,?_⟩
    cases u<;>first | rfl | exact absurd rfl (h2 _)
   | agg cs=>exact absurd rfl (h3 _)
   | tup cs=>exact absurd rfl (h4 _)
   | clo f cs=>
    cases cs with
    | nil=>
     obtain⟨us,rfl,h2⟩:=hk
     simp only[All2] at h2;subst h2
     exact⟨by show okV x.sz x.h x.I (.clo f []) _ [];simp[okV,okL],trivial,rfl⟩
    | cons c cs=>exact absurd rfl (h5 _ _ _)
   | sl e es=>
    refine⟨hk,hs,?_⟩
    have k1':okV x.sz x.h x.I (.sl e es) u []:=hk
    simp only[okV,true_and] at k1'
    obtain⟨ad,cap,rfl,_⟩:=k1'
    rfl
   | own e es=>
    refine⟨hk,hs,?_⟩
    have k1':okV x.sz x.h x.I (.own e es) u []:=hk
    simp only[okV] at k1'
    rcases k1' with⟨_,_,ad,rfl⟩ | ⟨b,o,cap,arr,el,fz,fs',rfl,_⟩<;>rfl
   | ipt cs=>
    refine⟨hk,hs,?_⟩
    have k1':okV x.sz x.h x.I (.ipt cs) u []:=hk
    simp only[okV,true_and] at k1'
    obtain⟨b,o,arr,el,fz,rfl,_⟩:=k1'
    rfl
   | ref d v p c n=>obtain⟨⟨ad,cap,rfl⟩,_⟩:=id hk;exact⟨hk,hs,rfl⟩
   | ptr d v p c=>obtain⟨⟨ad,rfl⟩,_⟩:=id hk;exact⟨hk,hs,rfl⟩
   | bx d v p c=>obtain⟨b,arr,el,fz,u',rfl,_⟩:=id hk;exact⟨hk,hs,rfl⟩
   | dead=>exact absurd rfl hdead
   | hdr n=>
    refine⟨hk,hs,?_⟩
    have k1':okV x.sz x.h x.I (.hdr n) u []:=hk
    simp only[okV,true_and] at k1'
    obtain⟨ad,cap,rfl⟩:=k1'
    rfl
   | obx cs=>
    have k1':okV x.sz x.h x.I (.obx cs) u []:=hk
    simp[okV] at k1'
  exact one t hx.1 hx.2.1 hx.2.2
theorem inline_dead {tk:Nat→Bool} {rt:List (Nat×Root)} {zero:List T} {x:List T×List CSet} (h:(inlineL tk (partCells zero .dead)).run rt=some x):False:=by
 simp only[partCells,inlineL,inline1] at h
 obtain⟨b,h1,_⟩:=run_bind h
 simp[Rd.run] at h1
theorem inlineR_dead {tk:Nat→Bool} {rt:List (Nat×Root)} {zero:List T} {x:List T×List CSet} (h:(inlineR tk (partCells zero .dead)).run rt=some x):False:=
 inline_dead (tk:=tk) (rt:=rt) (zero:=zero) (x:=x) (by simpa[inlineR,partCells,deepOf,deep1] using h)
theorem inline_partR {tk:Nat→Bool} {zero:List T} {t:T} {u:Value} {ts:List T} {ss:List CSet} (h:Here E z n tick fr rt gh w FS a)
  (k1:okX ⟨szOf E,w.heap,Inow z w (FS++[]),rt,gh⟩ t u) (k2:stX (Stm tick rt) t) (he:(inlineR tk (partCells zero t)).run rt=some (ts,ss)) (hap:setsApart ss=true):
  ∃ FS' f,HRel (szOf E) z (setCells tick rt ss) gh w FS' (f++[])∧
   Keeps ⟨szOf E,w.heap,Inow z w (FS++[]),rt,gh⟩ ⟨szOf E,w.heap,Inow z w (FS'++(f++[])),setCells tick rt ss,gh⟩ (Stm tick rt)∧
   okL (szOf E) w.heap (Inow z w (FS'++(f++[]))) ts u.cells.toList f∧(∀ v,v∈u.cells.toList→oneVal v=true):=by
 obtain⟨p1,p2⟩:=part_cells (zero:=zero) k1 k2 (fun hd=>inlineR_dead (hd▸he))
 obtain⟨FS',f,L,g1,g2⟩:=inlineR_ok (tick:=tick) h.heap he hap p1 p2
 exact⟨FS',f,L.rel,L.keeps,g1,g2⟩
theorem op_box {ty:TypeId} {x:Operand} (h:Here E z n tick fr rt gh w FS a) (ho:o.op=.box ty x) (hd:EffOk tick rt d e)
  (he:(evOp E call me (St.val fr) tick d ty0 (.box ty x)).run rt=some e):
  Says E z tick rt gh w FS d e (execOp a.eval o):=by
 simp only[evOp] at he
 obtain⟨i,h1,he1⟩:=run_bind he
 obtain⟨t,h2,he2⟩:=run_bind he1
 obtain⟨k1,k2⟩:=h.frame.val (run_of h2)
 split at he2
 ·rename_i d0 ver path off
  simp only[Rd.run,Option.some.injEq] at he2
  subst he2
  obtain⟨ad,hu⟩:=k1.1
  have hrun:(execOp a.eval o).run E.P w=.ok (.value (.pointer (some ⟨w.heap.size,0,none⟩))) (w.alloc (.cells (a.eval x).cells ty (0,0))):=by
   simp only[execOp,ho,Instr.box,Sem.run_bind,run_newVar,Result.andThen_ok]
   rfl
  obtain⟨q1,q2,q3,q4⟩:=h.heap.alloc (.cells (a.eval x).cells ty (0,0))
  have hlow:=q1.same (X':=[]) (fun x=>by simp)
  have hk2:=q1.keeps_refl (I':=Inow z (w.alloc (.cells (a.eval x).cells ty (0,0))) (FS++[])) (Stm tick rt) (fun b hb=>q1.imm_grow (Nat.le_refl _) (fun b hb=>.inl (by simp at hb ⊢;exact .inl hb)) hb)
  have hkk:=(q2.mono (S':=Stm tick rt) fun _ _ _=>trivial).trans hk2 fun _ _ h=>h
  have hkx:=hkk.x (t:=.ptr d0 ver path off) k2 k1
  unfold Says
  rw[hrun]
  refine⟨gh,FS,hlow,hkk,⟨w.heap.size,_,ty,(0,0),a.eval x,rfl,.inr ⟨.inr h.heap.fr.size,by show _<(w.heap.push _).size;simp,?_⟩,q3,?_,⟨ad,hu⟩,hkx.2⟩,k2⟩
  ·intro hm
   have:=h.heap.lt w.heap.size (by simpa using hm)
   omega
  ·rw[hu];rfl
 obtain⟨⟨ts,ss⟩,h3,he3⟩:=run_bind he2
 split at he3
 ·simp only[Rd.run,Option.some.injEq] at he3
  subst he3
  obtain⟨FS',f,g1,g2,g3,g4⟩:=inline_partR h k1 k2 h3 hd.apart
  have hnew:=hd.new _ rfl
  obtain⟨gh',FS2,q1,q2,q3,q4⟩:=slot_var (d:=d) (tick:=tick) (el:=ty) g1 g3 (fun r0 h0=>newOk_lt hnew h0)
  rw[Array.toArray_toList] at q1 q2 q3
  have hrun:(execOp a.eval o).run E.P w=.ok (.value (.pointer (some ⟨w.heap.size,0,none⟩))) (w.alloc (.cells (a.eval x).cells ty (0,0))):=by
   simp only[execOp,ho,Instr.box,Sem.run_bind,run_newVar,Result.andThen_ok]
   rfl
  unfold Says
  rw[hrun]
  exact⟨gh',FS2,q1,g2.trans q2 fun a b h=>Stm_sets a b h,q3,q4⟩
 ·simp[Rd.run] at he3
theorem slot_slice {rt1 gh1 FS1 f es} {w:World} {el e':TypeId} {arr:Array Value} {cap:Nat} (r:HRel (szOf E) z rt1 gh1 w FS1 (f++[])) (hk:okEs (szOf E) w.heap (Inow z w (FS1++(f++[]))) (szOf E e') es arr.toList f)
  (hcap:es.length≤cap) (hfit:cap*szOf E e'≤arr.size) (hold:∀ r0,lk rt1 d=some r0→r0.ver<tick) {fz:Nat×Nat} (hfz:fzOk (szOf E e') fz arr.size):
  ∃ gh' FS',HRel (szOf E) z (rtUp rt1 d (rooted d tick (.own e' es)).root) gh' (w.alloc (.cells arr el fz)) FS' []∧
   Keeps ⟨szOf E,w.heap,Inow z w (FS1++(f++[])),rt1,gh1⟩ ⟨szOf E,(w.alloc (.cells arr el fz)).heap,Inow z (w.alloc (.cells arr el fz)) (FS'++[]),rtUp rt1 d (rooted d tick (.own e' es)).root,gh'⟩ (Stm tick rt1)∧
   okX ⟨szOf E,(w.alloc (.cells arr el fz)).heap,Inow z (w.alloc (.cells arr el fz)) (FS'++[]),rtUp rt1 d (rooted d tick (.own e' es)).root,gh'⟩ (rooted d tick (.own e' es)).val (.slice (some ⟨w.heap.size,0,none⟩) es.length cap)∧
   stX (Stm tick (rtUp rt1 d (rooted d tick (.own e' es)).root)) (rooted d tick (.own e' es)).val:=by
 obtain⟨h1,h2,h3,h4⟩:=r.alloc (.cells arr el fz)
 have hlt:∀ b,b∈f→b<w.heap.size:=fun b hb=>r.lt b (by simp[hb])
 have hk':=okEs_agree (h':=(w.alloc (.cells arr el fz)).heap) (I':=Inow z (w.alloc (.cells arr el fz)) (FS1++(w.heap.size::(f++[]))))
  ⟨fun b hb=>h2.old b hb,fun b hb=>h4 b (hlt b hb)⟩ hk
 have h1':HRel (szOf E) z rt1 gh1 (w.alloc (.cells arr el fz)) FS1 ((w.heap.size::f)++[]):=h1
 have hv:okV (szOf E) (w.alloc (.cells arr el fz)).heap (Inow z (w.alloc (.cells arr el fz)) (FS1++((w.heap.size::f)++[]))) (.own e' es) (.slice (some ⟨w.heap.size,0,none⟩) es.length cap) (w.heap.size::f):=by
  simp only[okV]
  exact .inr ⟨w.heap.size,0,cap,arr,el,fz,f,rfl,hcap,h3,hfz,by omega,rfl,by simpa using hk'⟩
 obtain⟨gh',FS',k1,k2,k3,k4⟩:=slot_own (d:=d) (tick:=tick) h1' hv hold
 exact⟨gh',FS',k1,(h2.mono (S':=Stm tick rt1) fun _ _ _=>trivial).trans k2 fun _ _ h=>h,k3,k4⟩
theorem HRel.drew {sz z rt gh w FS X} (r:HRel sz z rt gh w FS X):HRel sz z rt gh w.drew FS X:=
 ⟨r.srt,r.roots,r.uniq,r.lt,r.zone,⟨r.fr.os,r.fr.output,r.fr.tape,r.fr.size,r.fr.block⟩⟩
end laid
theorem okEs_le {sz h I} {s:Nat}:∀ {es:List (List T)} {l f},okEs sz h I s es l f→es.length*s≤l.length
 | [],l,f,_=>by simp
 | c::es,l,f,hk=>by
  simp only[okEs] at hk
  obtain⟨f1,f2,h0,_,h1,h2⟩:=hk
  have q1:=okL_length h1
  have q2:=okEs_le h2
  rw[List.length_take] at q1
  rw[List.length_drop] at q2
  rw[List.length_cons,Nat.succ_mul]
  omega
theorem okEs_ext {sz h I} {s:Nat}:∀ {es:List (List T)} {l l' f},okEs sz h I s es l f→l'.take (es.length*s)=l.take (es.length*s)→okEs sz h I s es l' f
 | [],l,l',f,hk,_=>by simpa[okEs] using hk
 | c::es,l,l',f,hk,he=>by
  simp only[okEs] at hk ⊢
  obtain⟨f1,f2,h0,hf,h1,h2⟩:=hk
  rw[List.length_cons,Nat.succ_mul] at he
  have e1:l'.take s=l.take s:=by
   have:=congrArg (List.take s) he
   rwa[List.take_take,List.take_take,Nat.min_eq_left (by omega)] at this
  have e2:(l'.drop s).take (es.length*s)=(l.drop s).take (es.length*s):=by
   have:=congrArg (List.drop s) he
   rwa[List.drop_take,List.drop_take,Nat.add_sub_cancel] at this
  exact⟨f1,f2,h0,hf,by rw[e1];exact h1,okEs_ext h2 e2⟩
theorem okEs_exact {sz h I} {s:Nat} {es:List (List T)} {l f} (hk:okEs sz h I s es l f):okEs sz h I s es (l.take (es.length*s)) f:=
 okEs_ext hk (by rw[List.take_take,Nat.min_self])
theorem okEs_append {sz h I} {s:Nat}:∀ {e1 e2:List (List T)} {l1 l2 f1 f2},okEs sz h I s e1 l1 f1→l1.length=e1.length*s→okEs sz h I s e2 l2 f2→okEs sz h I s (e1++e2) (l1++l2) (f1++f2)
 | [],e2,l1,l2,f1,f2,h1,hl,h2=>by
  simp only[List.length_nil,Nat.zero_mul,List.length_eq_zero_iff] at hl
  simp only[okEs] at h1
  subst hl;subst h1
  simpa using h2
 | c::e1,e2,l1,l2,f1,f2,h1,hl,h2=>by
  simp only[okEs] at h1
  obtain⟨g1,g2,h0,rfl,h3,h4⟩:=h1
  rw[List.length_cons,Nat.succ_mul] at hl
  simp only[List.cons_append,okEs]
  refine⟨g1,g2++f2,h0,by simp,?_,?_⟩
  ·rw[List.take_append_of_le_length (by omega)];exact h3
  ·rw[List.drop_append_of_le_length (by omega)]
   exact okEs_append h4 (by rw[List.length_drop];omega) h2
theorem HRel.float {sz z rt gh w FS X} {b:Nat} {w':World} (r:HRel sz z rt gh w FS X) (hb:b∈X) (hos:w'.os=w.os) (hou:w'.output=w.output) (hta:w'.tape=w.tape) (hsz:w'.heap.size=w.heap.size)
  (hw:∀ x,x≠b→w'.heap[x]?=w.heap[x]?):HRel sz z rt gh w' FS X∧Keeps ⟨sz,w.heap,Inow z w (FS++X),rt,gh⟩ ⟨sz,w'.heap,Inow z w' (FS++X),rt,gh⟩ (fun _ _=>True):=by
 have hnb:∀ x,Inow z w (FS++X) x→x≠b:=fun x hx he=>by subst he;exact (r.imm hx).2 (by simp[hb])
 have hI:∀ x,Inow z w (FS++X) x→Inow z w' (FS++X) x:=fun x hx=>r.imm_grow (by omega) (fun b hb=>.inl hb) hx
 have hF:∀ x,x∈FS→x≠b:=fun x hx he=>by
  subst he
  have h1:=List.count_pos_iff.2 hx
  have h2:=List.count_pos_iff.2 hb
  have:=r.uniq x
  simp only[List.count_append] at this
  omega
 have hag:∀ x,Inow z w (FS++X) x→Inow z w' (FS++X) x∧w'.heap[x]?=w.heap[x]?:=fun x hx=>⟨hI x hx,hw x (hnb x hx)⟩
 refine⟨⟨r.srt,okRts_agree ⟨hag,fun x hx=>hw x (hF x hx)⟩ r.roots,r.uniq,fun x hx=>by rw[hsz];exact r.lt x hx,r.zone,r.fr.step r.zone hos hou hta (by omega) fun x _ hx=>hw x fun he=>hx (by subst he;simp[hb])⟩,
  ⟨rfl,hag,fun d s r' _ h1 h2=>⟨r',h1,h2,rfl,skL_self r.roots (fun x hx=>hw x (hF x hx)) h1⟩,fun d s r' _ h1 h2=>⟨r',h1,h2,rfl⟩⟩⟩
section laid
variable {E:Env} {z:Zn} {n tick:Nat} {fr:List (Nat×T)} {rt:List (Nat×Root)} {gh:Nat→G} {w:World} {FS:List Nat} {a:Act}
variable {call:FuncId→List Arg→Option Res} {me:FuncId} {d:Nat} {ty0:TypeId} {e:Eff} {o:Oper}
theorem op_assign {x:Operand} (h:Here E z n tick fr rt gh w FS a) (ho:o.op=.assign x) (hd:EffOk tick rt d e)
  (he:(evOp E call me (St.val fr) tick d ty0 (.assign x)).run rt=some e):
  Says E z tick rt gh w FS d e (execOp a.eval o):=by
 simp only[evOp] at he
 obtain⟨t,h1,he1⟩:=run_bind he
 clear he
 have hx:=run_of h1
 clear h1
 obtain⟨k1,k2⟩:=h.frame.val hx
 have quiet:e={ val:=t }→Says E z tick rt gh w FS d e (execOp a.eval o):=fun hq=>by
  subst hq
  exact says_quiet h (by simp only[execOp,ho];rfl) k1 k2
 split at he1
 ·rename_i s s' ver nn
  split at he1
  ·obtain⟨r0,g1,g2,g3⟩:=run_root he1
   split at g3
   ·simp only[Rd.run,Option.some.injEq] at g3
    exact quiet g3.symm
   ·obtain⟨⟨⟨e',es⟩,sc⟩,g4,g5⟩:=run_bind g3
    rename_i hss _
    subst hss
    simp only[Rd.run,Option.some.injEq] at g5
    subst g5
    obtain⟨⟨ad,cap,hu⟩,k3⟩:=k1
    obtain⟨q1,q2,q3,FS',f,q4,q5,q6⟩:=h.heap.take (tick:=tick) k3 g4
    refine says_slot (ss:=[sc]) (e0:=rooted d tick (.own e' es)) (u:=a.eval (.tmp s)) (w1:=w) (gh1:=gh) ?_ ?_ rfl rfl q6 (slot_own q5 ?_ ?_)
    ·simp only[execOp,ho];rfl
    ·rw[with_sets.2.2,rooted_sets];rfl
    ·exact okV_agree ⟨fun b hb=>q6.old b hb,fun b _=>rfl⟩ q4
    ·intro r1 h1
     exact newOk_lt (ss:=[sc]) (hd.new ⟨tick,tick,false,[.own e' es]⟩ (by rw[with_sets.2.1];rfl)) h1
  ·simp only[Rd.run,Option.some.injEq] at he1
   exact quiet he1.symm
 ·simp only[Rd.run,Option.some.injEq] at he1
  exact quiet he1.symm
end laid
section runs
variable {P:Program} {w:World}
theorem run_append_fits (t0 t1 ty e:TypeId) (d1:TypeDesc) (i:TypeInfo) (tys:Array TypeId) (h0:tys[0]?=some t0) (h1:tys[1]?=some t1) (ht:P.underlying t0=some (.slice e)) (hd:P.underlying t1=some d1)
  (hint:∀ k,d1≠.int k) (hi:P.info? e=some i) (base:Option Addr) (sLen sCap nn:Nat) (x:Value) (news:Array Value) (hx:(Builtin.lenOf x).run P w=.ok nn w)
  (hn:(Builtin.firstCells i.size nn x).run P w=.ok news w) (hfit:sLen+nn≤sCap) (w':World)
  (hst:(match base with | some a=>storeCells (a.add (sLen*i.size)) news.toList | none=>pure ()).run P w=.ok () w'):
  (Builtin.append_ tys ty #[.slice base sLen sCap,x]).run P w=.ok (.slice base (sLen+nn) sCap) w':=by
 unfold Builtin.append_
 simp only[h0,h1,List.getElem?_toArray,List.getElem?_cons_zero,List.getElem?_cons_succ,Sem.run_bind,run_underlying ht,Result.andThen_ok,sizeOf,run_typeInfo hi,run_underlying hd,Sem.run_pure]
 cases base with
 | none=>
  simp only[Sem.run_pure,Result.ok.injEq,true_and] at hst
  subst hst
  cases d1<;>first
   | exact absurd rfl (hint _)
   | (simp[hx,hfit,hn])
 | some ad=>
  cases d1<;>first
   | exact absurd rfl (hint _)
   | (simp[hx,hfit,hn,hst])
theorem run_append_grows (t0 t1 ty e:TypeId) (d1:TypeDesc) (i:TypeInfo) (z:Value) (tys:Array TypeId) (h0:tys[0]?=some t0) (h1:tys[1]?=some t1) (ht:P.underlying t0=some (.slice e)) (hd:P.underlying t1=some d1)
  (hint:∀ k,d1≠.int k) (hi:P.info? e=some i) (hz:i.zero=some z) (base:Option Addr) (sLen sCap nn:Nat) (x:Value) (olds news:Array Value) (hx:(Builtin.lenOf x).run P w=.ok nn w)
  (ho:(Builtin.firstCells i.size sLen (.slice base sLen sCap)).run P w.drew=.ok olds w.drew)
  (hn:(Builtin.firstCells i.size nn x).run P w.drew=.ok news w.drew) (hfit:sCap<sLen+nn) (h63:((sLen+nn:Nat):Int)≤9223372036854775807) (h48:Builtin.nextslicecap (sLen+nn) sCap*i.bytes≤281474976710656):
  (Builtin.append_ tys ty #[.slice base sLen sCap,x]).run P w=.ok (.slice (some ⟨w.heap.size,0,none⟩) (sLen+nn) (grownCap w (sLen+nn) sCap e))
   (w.drew.alloc (.cells (olds++news++Builtin.zeroCells z.cells (grownCap w (sLen+nn) sCap e - (sLen+nn))) e (0,0))):=by
 have hnot:¬ (sLen+nn≤sCap):=by omega
 have h63':¬ (9223372036854775807<((sLen:Int)+(nn:Int))):=by omega
 have h48':¬ (281474976710656<Builtin.nextslicecap (sLen+nn) sCap*i.bytes):=by omega
 unfold Builtin.append_
 simp only[h0,h1,List.getElem?_toArray,List.getElem?_cons_zero,List.getElem?_cons_succ,Sem.run_bind,run_underlying ht,Result.andThen_ok,sizeOf,run_typeInfo hi,run_underlying hd,Sem.run_pure]
 cases d1<;>first
  | exact absurd rfl (hint _)
  | (simp[hx,hnot,h63',h48',typeInfo,zeroValue,hi,hz,Question.forced,ho,hn,newRow,grownCap])
end runs
section src
variable {E:Env} {z:Zn} {w:World}
structure Cells (P:Program) (w:World) (size:Nat) (u:Value) (n:Nat) (news:List Value):Prop where
 len:news.length=n*size
 lenOf:∀ w',(Builtin.lenOf u).run P w'=.ok n w'
 first:∀ w':World,w'.heap=w.heap→(Builtin.firstCells size n u).run P w'=.ok news.toArray w'
theorem cells_zero {P:Program} {size n cap:Nat} {ad:Option Addr} (h0:n*size=0):Cells P w size (.slice ad n cap) n []:=by
 refine⟨by simp[h0],fun w'=>rfl,fun w' _=>?_⟩
 cases ad with
 | none=>rfl
 | some ad=>simp only[Builtin.firstCells,h0];rfl
theorem cells_row {P:Program} {size n cap b o:Nat} {arr:Array Value} {el:TypeId} {fz:Nat×Nat} (hb:w.heap[b]?=some (.cells arr el fz)) (hfit:o+n*size≤arr.size):
  Cells P w size (.slice (some ⟨b,o,none⟩) n cap) n ((arr.toList.drop o).take (n*size)):=by
 refine⟨by rw[List.length_take,List.length_drop,Array.length_toList];omega,fun w'=>rfl,fun w' hw=>?_⟩
 simp only[Builtin.firstCells]
 exact run_loadCells_ok (by rw[hw];exact hb) hfit
theorem cells_le {P:Program} {size n cap b o s:Nat} {arr:Array Value} {el:TypeId} {fz:Nat×Nat} (hb:w.heap[b]?=some (.cells arr el fz)) {sz h I} {es:List (List T)} {f} (hk:okEs sz h I s es (arr.toList.drop o) f) (hs:s=size) (hn:es.length=n):
  ∃ news,Cells P w size (.slice (some ⟨b,o,none⟩) n cap) n news∧okEs sz h I s es news f:=by
 subst hs;subst hn
 have hle:=okEs_le hk
 rw[List.length_drop] at hle
 have hal:arr.toList.length=arr.size:=Array.length_toList
 rcases Nat.eq_zero_or_pos (es.length*s) with h0 | hp
 ·exact⟨[],cells_zero h0,okEs_ext hk (by rw[h0];simp)⟩
 ·exact⟨_,cells_row hb (by omega),okEs_exact hk⟩
theorem okL_flat {sz h I}:∀ {cs us f},okL sz h I cs us f→cs.all flat1=true→okL sz h I cs us []∧f=[]
 | [],us,f,hk,_=>by simp only[okL] at hk ⊢;exact⟨⟨hk.1,trivial⟩,hk.2⟩
 | c::cs,us,f,hk,ha=>by
  simp only[okL] at hk ⊢
  obtain⟨u,us',f1,f2,rfl,rfl,h1,h2⟩:=hk
  simp only[List.all_cons,Bool.and_eq_true] at ha
  obtain⟨g1,g2⟩:=okL_flat h2 ha.2
  have hf:f1=[]:=okV_cell h1 (by cases c<;>first | rfl | simp[flat1] at ha) (by cases c<;>first | rfl | simp[flat1] at ha)
  subst hf;subst g2
  exact⟨⟨u,us',[],[],rfl,rfl,h1,g1⟩,rfl⟩
theorem okEs_flat {sz h I} {s:Nat}:∀ {es:List (List T)} {l f},okEs sz h I s es l f→es.all (·.all flat1)=true→okEs sz h I s es l []
 | [],l,f,hk,_=>by simp[okEs]
 | c::es,l,f,hk,ha=>by
  simp only[okEs] at hk ⊢
  obtain⟨f1,f2,h0,rfl,h1,h2⟩:=hk
  simp only[List.all_cons,Bool.and_eq_true] at ha
  exact⟨[],[],h0,rfl,(okL_flat h1 ha.1).1,okEs_flat h2 ha.2⟩
theorem own_cells {P:Program} {sz I} {e:TypeId} {es:List (List T)} {u:Value} {f:List Nat} (hk:okV sz w.heap I (.own e es) u f):
  ∃ news f',Cells P w (sz e) u es.length news∧okEs sz w.heap I (sz e) es news f'∧(∀ x,f'.count x≤f.count x):=by
 simp only[okV] at hk
 rcases hk with⟨rfl,rfl,ad,rfl⟩ | ⟨b,o,cap,arr,el,fz,fs',rfl,h2,h3,h4,h5,rfl,h7⟩
 ·exact⟨[],[],cells_zero (by simp),by simp[okEs],fun x=>Nat.le_refl _⟩
 ·obtain⟨news,g1,g2⟩:=cells_le (P:=P) (cap:=cap) h3 h7 rfl rfl
  exact⟨news,fs',g1,g2,fun x=>by rw[List.count_cons];omega⟩
theorem bytes_cells {P:Program} {sz h I} (s:ByteArray):Cells P w 1 (.string s) s.size (s.data.toList.map fun b=>Value.int .u8 b.toNat)∧okEs sz h I 1 (bytesT s) (s.data.toList.map fun b=>Value.int .u8 b.toNat) []:=by
 constructor
 ·refine⟨by rw[List.length_map,Nat.mul_one];rfl,fun w'=>rfl,fun w' _=>?_⟩
  simp only[Builtin.firstCells,Sem.run_pure,Result.ok.injEq,and_true]
  have hx:(s.extract 0 s.size)=s:=by
   apply ByteArray.ext
   simp
  rw[hx]
  apply Array.ext'
  simp
 ·unfold bytesT
  generalize s.data.toList=l
  induction l with
  | nil=>simp[okEs]
  | cons b l ih=>
   simp only[List.map_cons,okEs]
   exact⟨[],[],rfl,rfl,⟨_,[],[],[],rfl,rfl,by simp[okV],by simp[okL]⟩,by simpa using ih⟩
theorem src_run {rt gh FS X} {e:TypeId} {size:Nat} {t:T} {u:Value} {es:List (List T)} {ss:List CSet} (P:Program) (r:HRel (szOf E) z rt gh w FS X) (hk:okX ⟨szOf E,w.heap,Inow z w (FS++X),rt,gh⟩ t u)
  (hs:szOf E e=size) (h:(srcOf e size t).run rt=some (es,ss)):
  (ss=[]∧∃ news,Cells P w size u es.length news∧okEs (szOf E) w.heap (Inow z w (FS++X)) size es news [])∨
  (∃ d ver path c n s,t=.ref d ver path c n∧ss=[s]∧(takeRef d ver path c n).run rt=some ((e,es),s)):=by
 unfold srcOf at h
 split at h
 ·rename_i d ver path c n
  obtain⟨r0,g1,g2,g3⟩:=run_root h
  split at g3
  ·obtain⟨⟨e',es'⟩,g4,g5⟩:=run_bind g3
   split at g5
   ·rename_i hc
    obtain⟨rfl,hflat⟩:=hc
    simp only[Rd.run,Option.some.injEq,Prod.mk.injEq] at g5
    obtain⟨rfl,rfl⟩:=g5
    obtain⟨f,q1,q2,q3⟩:=r.content hk.2 g4
    obtain⟨news,f',m1,m2,m3⟩:=own_cells (P:=P) q1
    subst hs
    exact .inl ⟨rfl,news,m1,okEs_flat m2 hflat⟩
   ·simp[Rd.run] at g5
  ·obtain⟨⟨⟨e',es'⟩,s⟩,g4,g5⟩:=run_bind g3
   split at g5
   ·rename_i hc
    dsimp only at hc;subst hc
    simp only[Rd.run,Option.some.injEq,Prod.mk.injEq] at g5
    obtain⟨rfl,rfl⟩:=g5
    exact .inr ⟨d,ver,path,c,n,s,rfl,rfl,g4⟩
   ·simp[Rd.run] at g5
 ·rename_i e' es'
  split at h
  ·rename_i hc;subst hc
   simp only[Rd.run,Option.some.injEq,Prod.mk.injEq] at h
   obtain⟨rfl,rfl⟩:=h
   refine .inl ⟨rfl,?_⟩
   have k1':okV (szOf E) w.heap (Inow z w (FS++X)) (.sl e' es') u []:=hk
   simp only[okV,true_and] at k1'
   obtain⟨ad,cap,rfl,hcap,h2⟩:=k1'
   rcases h2 with rfl | ⟨b,o,arr,el,fz,rfl,q1,q2,q3⟩
   ·exact⟨[],cells_zero (by simp),by simp[okEs]⟩
   ·obtain⟨news,m1,m2⟩:=cells_le (P:=P) (cap:=cap) q2 q3 hs rfl
    rw[hs] at m2
    exact⟨news,m1,m2⟩
  ·simp[Rd.run] at h
 ·simp only[Rd.run,Option.some.injEq,Prod.mk.injEq] at h
  obtain⟨rfl,rfl⟩:=h
  have:=okX_v.1 hk
  subst this
  exact .inl ⟨rfl,[],cells_zero (by simp),by simp[okEs]⟩
 ·rename_i s
  split at h
  ·rename_i hc;subst hc
   simp only[Rd.run,Option.some.injEq,Prod.mk.injEq] at h
   obtain⟨rfl,rfl⟩:=h
   have:=okX_v.1 hk
   subst this
   refine .inl ⟨rfl,_,?_,(bytes_cells (P:=P) (w:=w) s).2⟩
   have hl:(bytesT s).length=s.size:=by simp[bytesT]
   rw[hl]
   exact (bytes_cells (P:=P) (w:=w) (sz:=szOf E) (h:=w.heap) (I:=fun _=>True) s).1
  ·simp[Rd.run] at h
 ·simp[Rd.run] at h
end src
theorem okL_one1 {sz h I}:∀ {cs us f},okL sz h I cs us f→cs.all one1=true→∀ u,u∈us→oneVal u=true
 | [],us,f,hk,_,u,hu=>by simp only[okL] at hk;rw[hk.1] at hu;simp at hu
 | c::cs,us,f,hk,ha,v,hv=>by
  simp only[okL] at hk
  obtain⟨u,us',f1,f2,rfl,rfl,h1,h2⟩:=hk
  simp only[List.all_cons,Bool.and_eq_true] at ha
  rcases List.mem_cons.1 hv with rfl | hv
  ·cases c with
   | v x=>simp only[okV] at h1;rw[h1.1];exact ha.1
   | sl e es=>simp only[okV] at h1;obtain⟨_,a,cap,rfl,_⟩:=h1;rfl
   | own e es=>simp only[okV] at h1;rcases h1 with⟨_,_,a,rfl⟩ | ⟨b,o,cap,arr,el,fz,fs',rfl,_⟩<;>rfl
   | ipt cs=>simp only[okV] at h1;obtain⟨_,b,o,arr,el,fz,rfl,_⟩:=h1;rfl
   | clo f caps=>simp only[okV] at h1;obtain⟨_,us,rfl,_⟩:=h1;rfl
   | _=>simp[one1] at ha
  ·exact okL_one1 h2 ha.2 v hv
theorem okEs_one1 {sz h I} {s:Nat}:∀ {es:List (List T)} {l f},okEs sz h I s es l f→es.all (·.all one1)=true→l.length=es.length*s→∀ u,u∈l→oneVal u=true
 | [],l,f,_,_,hl,u,hu=>by simp at hl;rw[hl] at hu;simp at hu
 | c::es,l,f,hk,ha,hl,u,hu=>by
  simp only[okEs] at hk
  obtain⟨f1,f2,h0,rfl,h1,h2⟩:=hk
  simp only[List.all_cons,Bool.and_eq_true] at ha
  rw[←List.take_append_drop s l] at hu
  rcases List.mem_append.1 hu with hu | hu
  ·exact okL_one1 h1 ha.1 u hu
  ·refine okEs_one1 h2 ha.2 ?_ u hu
   rw[List.length_drop,hl,List.length_cons,Nat.succ_mul];omega
section core
variable {E:Env} {z:Zn} {n tick:Nat} {fr:List (Nat×T)} {rt:List (Nat×Root)} {gh:Nat→G} {w:World} {FS:List Nat} {a:Act}
variable {call:FuncId→List Arg→Option Res} {me:FuncId} {d:Nat} {ty0:TypeId} {e:Eff} {o:Oper}
theorem grow_core {rt2 gh2 FS2 fs fd el es1 es2 sLen sCap olds news ie} {zv:Value} (hie:E.ti el=some ie) (r:HRel (szOf E) z rt2 gh2 w FS2 (fs++(fd++[])))
  (kp:Keeps ⟨szOf E,w.heap,Inow z w (FS++[]),rt,gh⟩ ⟨szOf E,w.heap,Inow z w (FS2++(fs++(fd++[]))),rt2,gh2⟩ (Stm tick rt)) (hS:∀ a b,Stm tick rt a b→Stm tick rt2 a b)
  (ho:okEs (szOf E) w.heap (Inow z w (FS2++(fs++(fd++[])))) (szOf E el) es1 olds fd) (hol:olds.length=es1.length*szOf E el)
  (hs:okEs (szOf E) w.heap (Inow z w (FS2++(fs++(fd++[])))) (szOf E el) es2 news fs) (hnl:news.length=es2.length*szOf E el)
  (hz:zv.cells.size=ie.size) (hold:∀ r0,lk rt2 d=some r0→r0.ver<tick) (hcap:es1.length+es2.length≤grownCap w (sLen+es2.length) sCap el) (hsl:sLen=es1.length):
  ∃ gh' FS',HRel (szOf E) z (rtUp rt2 d (rooted d tick (.own el (es1++es2))).root) gh' (w.drew.alloc (.cells (olds.toArray++news.toArray++Builtin.zeroCells zv.cells (grownCap w (sLen+es2.length) sCap el - (sLen+es2.length))) el (0,0))) FS' []∧
   Keeps ⟨szOf E,w.heap,Inow z w (FS++[]),rt,gh⟩ ⟨szOf E,(w.drew.alloc (.cells (olds.toArray++news.toArray++Builtin.zeroCells zv.cells (grownCap w (sLen+es2.length) sCap el - (sLen+es2.length))) el (0,0))).heap,
    Inow z (w.drew.alloc (.cells (olds.toArray++news.toArray++Builtin.zeroCells zv.cells (grownCap w (sLen+es2.length) sCap el - (sLen+es2.length))) el (0,0))) (FS'++[]),rtUp rt2 d (rooted d tick (.own el (es1++es2))).root,gh'⟩ (Stm tick rt)∧
   okX ⟨szOf E,(w.drew.alloc (.cells (olds.toArray++news.toArray++Builtin.zeroCells zv.cells (grownCap w (sLen+es2.length) sCap el - (sLen+es2.length))) el (0,0))).heap,
    Inow z (w.drew.alloc (.cells (olds.toArray++news.toArray++Builtin.zeroCells zv.cells (grownCap w (sLen+es2.length) sCap el - (sLen+es2.length))) el (0,0))) (FS'++[]),rtUp rt2 d (rooted d tick (.own el (es1++es2))).root,gh'⟩
    (rooted d tick (.own el (es1++es2))).val (.slice (some ⟨w.heap.size,0,none⟩) (sLen+es2.length) (grownCap w (sLen+es2.length) sCap el))∧
   stX (Stm tick (rtUp rt2 d (rooted d tick (.own el (es1++es2))).root)) (rooted d tick (.own el (es1++es2))).val:=by
 subst hsl
 have hsz:szOf E el=ie.size:=by simp[szOf,hie]
 generalize hcc:grownCap w (es1.length+es2.length) sCap el=cap at *
 have hk:=okEs_append ho hol (okEs_ext (l':=news++(Builtin.zeroCells zv.cells (cap - (es1.length+es2.length))).toList) hs (by rw[List.take_append_of_le_length (by omega),List.take_of_length_le (by omega)]))
 have hr:HRel (szOf E) z rt2 gh2 w.drew FS2 ((fd++fs)++[]):=(r.drew.perm (X':=(fd++fs)++[]) fun x=>by simp only[List.count_append,List.count_nil];omega).1
 have hI:∀ b,Inow z w (FS2++(fs++(fd++[]))) b→Inow z w.drew (FS2++((fd++fs)++[])) b:=fun b hb=>((r.drew.perm (X':=(fd++fs)++[]) fun x=>by simp only[List.count_append,List.count_nil];omega).2 b).1 hb
 have e1:(olds.toArray++news.toArray++Builtin.zeroCells zv.cells (cap - (es1.length+es2.length))).toList=olds++(news++(Builtin.zeroCells zv.cells (cap - (es1.length+es2.length))).toList):=by
  simp
 have hzl:(Builtin.zeroCells zv.cells (cap - (es1.length+es2.length))).size=(cap - (es1.length+es2.length))*ie.size:=by simp[Builtin.zeroCells,hz]
 obtain⟨gh',FS',q1,q2,q3,q4⟩:=slot_slice (d:=d) (tick:=tick) (e':=el) (el:=el) (es:=es1++es2) (arr:=olds.toArray++news.toArray++Builtin.zeroCells zv.cells (cap - (es1.length+es2.length))) (cap:=cap) (fz:=(0,0)) hr
  (by rw[e1];exact okEs_agree ⟨fun b hb=>⟨hI b hb,rfl⟩,fun b _=>rfl⟩ hk) (by rw[List.length_append];exact hcap)
  (by
   rw[Array.size_append,Array.size_append,hzl,List.size_toArray,List.size_toArray,hol,hnl,hsz,←Nat.add_mul,←Nat.add_mul]
   exact Nat.mul_le_mul_right _ (by omega)) hold fzOk_zero
 rw[List.length_append] at q3
 refine⟨gh',FS',q1,?_,q3,q4⟩
 have kp2:Keeps ⟨szOf E,w.heap,Inow z w (FS2++(fs++(fd++[]))),rt2,gh2⟩ ⟨szOf E,w.drew.heap,Inow z w.drew (FS2++((fd++fs)++[])),rt2,gh2⟩ (Stm tick rt2):=r.keeps_refl _ hI
 exact kp.trans (kp2.trans q2 fun _ _ h=>h) hS
theorem fits_core {rt2 gh2 FS2 fs fs' el es1 es2 b o' cap news} {arr:Array Value} {elt:TypeId} {fz:Nat×Nat} (r:HRel (szOf E) z rt2 gh2 w FS2 (fs++((b::fs')++[])))
  (kp:Keeps ⟨szOf E,w.heap,Inow z w (FS++[]),rt,gh⟩ ⟨szOf E,w.heap,Inow z w (FS2++(fs++((b::fs')++[]))),rt2,gh2⟩ (Stm tick rt)) (hS:∀ a b,Stm tick rt a b→Stm tick rt2 a b)
  (hb:w.heap[b]?=some (.cells arr elt fz)) (hfz:fzOk (szOf E el) fz arr.size) (hfit:o'+cap*szOf E el≤arr.size) (hcap:es1.length+es2.length≤cap)
  (ho:okEs (szOf E) w.heap (Inow z w (FS2++(fs++((b::fs')++[])))) (szOf E el) es1 (arr.toList.drop o') fs')
  (hs:okEs (szOf E) w.heap (Inow z w (FS2++(fs++((b::fs')++[])))) (szOf E el) es2 news fs) (hnl:news.length=es2.length*szOf E el)
  (hold:∀ r0,lk rt2 d=some r0→r0.ver<tick):
  ∃ gh' FS',HRel (szOf E) z (rtUp rt2 d (rooted d tick (.own el (es1++es2))).root) gh' (stores w b (o'+es1.length*szOf E el) news) FS' []∧
   Keeps ⟨szOf E,w.heap,Inow z w (FS++[]),rt,gh⟩ ⟨szOf E,(stores w b (o'+es1.length*szOf E el) news).heap,Inow z (stores w b (o'+es1.length*szOf E el) news) (FS'++[]),rtUp rt2 d (rooted d tick (.own el (es1++es2))).root,gh'⟩ (Stm tick rt)∧
   okX ⟨szOf E,(stores w b (o'+es1.length*szOf E el) news).heap,Inow z (stores w b (o'+es1.length*szOf E el) news) (FS'++[]),rtUp rt2 d (rooted d tick (.own el (es1++es2))).root,gh'⟩
    (rooted d tick (.own el (es1++es2))).val (.slice (some ⟨b,o',none⟩) (es1.length+es2.length) cap)∧
   stX (Stm tick (rtUp rt2 d (rooted d tick (.own el (es1++es2))).root)) (rooted d tick (.own el (es1++es2))).val:=by
 have hle:es1.length*szOf E el+es2.length*szOf E el≤cap*szOf E el:=by rw[←Nat.add_mul];exact Nat.mul_le_mul_right _ hcap
 obtain⟨arr',g1,g2,g3⟩:=stores_eq (vs:=news) (o:=o'+es1.length*szOf E el) hb (by omega)
 obtain⟨s1,s2,s3,s4⟩:=stores_same (b:=b) (vs:=news) (w:=w) (o:=o'+es1.length*szOf E el)
 obtain⟨r1,k1⟩:=r.float (b:=b) (w':=stores w b (o'+es1.length*szOf E el) news) (by simp) s1 s2 s3 s4 (fun x hx=>stores_ne hx)
 have huniq:=r.uniq b
 simp only[List.count_append,List.count_cons_self] at huniq
 have hb1:∀ x,x∈fs'→x≠b:=fun x hx he=>by subst he;have:=List.count_pos_iff.2 hx;omega
 have hb2:∀ x,x∈fs→x≠b:=fun x hx he=>by subst he;have:=List.count_pos_iff.2 hx;omega
 have ho':=okEs_agree (h':=(stores w b (o'+es1.length*szOf E el) news).heap) ⟨k1.old,fun x hx=>stores_ne (hb1 x hx)⟩ ho
 have hs':=okEs_agree (h':=(stores w b (o'+es1.length*szOf E el) news).heap) ⟨k1.old,fun x hx=>stores_ne (hb2 x hx)⟩ hs
 have hl1:=okEs_le ho
 have hal:arr.toList.length=arr.size:=Array.length_toList
 rw[List.length_drop,hal] at hl1
 have hrow:arr'.toList.drop o'=(arr.toList.drop o').take (es1.length*szOf E el)++(news++arr.toList.drop (o'+es1.length*szOf E el+news.length)):=by
  rw[g3,List.append_assoc,List.drop_append_of_le_length (by rw[List.length_take];omega),List.drop_take,Nat.add_sub_cancel_left]
 have hk:=okEs_append (okEs_exact ho') (by rw[List.length_take,List.length_drop];omega) (okEs_ext (l':=news++arr.toList.drop (o'+es1.length*szOf E el+news.length)) hs' (by rw[List.take_append_of_le_length (by omega),List.take_of_length_le (by omega)]))
 rw[←hrow] at hk
 have hperm:∀ x,((b::(fs'++fs))++[]).count x=(fs++((b::fs')++[])).count x:=fun x=>by simp only[List.count_append,List.count_cons,List.count_nil,List.cons_append];omega
 obtain⟨r2,hI⟩:=r1.perm hperm
 have hv:okV (szOf E) (stores w b (o'+es1.length*szOf E el) news).heap (Inow z (stores w b (o'+es1.length*szOf E el) news) (FS2++((b::(fs'++fs))++[]))) (.own el (es1++es2)) (.slice (some ⟨b,o',none⟩) (es1.length+es2.length) cap) (b::(fs'++fs)):=by
  simp only[okV]
  refine .inr ⟨b,o',cap,arr',elt,fz,fs'++fs,by rw[List.length_append],by rw[List.length_append];exact hcap,g1,by rw[g2];exact hfz,by rw[g2];exact hfit,rfl,?_⟩
  exact okEs_agree ⟨fun x hx=>⟨(hI x).1 hx,rfl⟩,fun x _=>rfl⟩ hk
 obtain⟨gh',FS',q1,q2,q3,q4⟩:=slot_own (d:=d) (tick:=tick) r2 hv hold
 have k2:Keeps ⟨szOf E,w.heap,Inow z w (FS2++(fs++((b::fs')++[]))),rt2,gh2⟩ ⟨szOf E,(stores w b (o'+es1.length*szOf E el) news).heap,Inow z (stores w b (o'+es1.length*szOf E el) news) (FS2++((b::(fs'++fs))++[])),rt2,gh2⟩ (Stm tick rt2):=
  (k1.mono (S':=Stm tick rt2) fun _ _ _=>trivial).trans (r1.keeps_refl (Stm tick rt2) fun x hx=>(hI x).1 hx) fun _ _ h=>h
 exact⟨gh',FS',q1,kp.trans (k2.trans q2 fun _ _ h=>h) hS,q3,q4⟩
end core
section app
variable {E:Env} {z:Zn} {n tick:Nat} {fr:List (Nat×T)} {rt:List (Nat×Root)} {gh:Nat→G} {w:World} {FS:List Nat} {a:Act}
variable {call:FuncId→List Arg→Option Res} {me:FuncId} {d:Nat} {ty0:TypeId} {e:Eff} {o:Oper}
theorem dst_run {el:TypeId} {t:T} {u:Value} {es:List (List T)} {ss:List CSet} (h:Here E z n tick fr rt gh w FS a) (hk:okX ⟨szOf E,w.heap,Inow z w (FS++[]),rt,gh⟩ t u)
  (he:(dstOf el t).run rt=some (es,ss)):
  ∃ FS1 f,HRel (szOf E) z (setCells tick rt ss) gh w FS1 (f++[])∧
   Keeps ⟨szOf E,w.heap,Inow z w (FS++[]),rt,gh⟩ ⟨szOf E,w.heap,Inow z w (FS1++(f++[])),setCells tick rt ss,gh⟩ (Stm tick rt)∧
   okV (szOf E) w.heap (Inow z w (FS1++(f++[]))) (.own el es) u f∧Pres (places ss) rt (setCells tick rt ss):=by
 unfold dstOf at he
 split at he
 ·rename_i d' ver path c nn
  obtain⟨⟨⟨e',es'⟩,s⟩,g1,g2⟩:=run_bind he
  split at g2
  ·rename_i hc
   dsimp only at hc;subst hc
   simp only[Rd.run,Option.some.injEq,Prod.mk.injEq] at g2
   obtain⟨rfl,rfl⟩:=g2
   obtain⟨q1,q2,q3,FS',f,q4,q5,q6⟩:=h.heap.take (tick:=tick) hk.2 g1
   exact⟨FS',f,q5,q6,okV_agree ⟨fun b hb=>q6.old b hb,fun b _=>rfl⟩ q4,(Pres.refl rt).step (tick:=tick) q1⟩
  ·simp[Rd.run] at g2
 ·simp only[Rd.run,Option.some.injEq,Prod.mk.injEq] at he
  obtain⟨rfl,rfl⟩:=he
  have:=okX_v.1 hk
  subst this
  exact⟨FS,[],h.heap,h.heap.keeps_refl _ fun b hb=>hb,by simp[okV],Pres.refl rt⟩
 ·simp[Rd.run] at he
theorem app_start {el:TypeId} {size:Nat} {ta tb:T} {ua ub:Value} {es1 es2:List (List T)} {ss1 ss2:List CSet} (h:Here E z n tick fr rt gh w FS a) (hsz:szOf E el=size)
  (ka:okX ⟨szOf E,w.heap,Inow z w (FS++[]),rt,gh⟩ ta ua) (kb:okX ⟨szOf E,w.heap,Inow z w (FS++[]),rt,gh⟩ tb ub) (kbs:stX (Stm tick rt) tb)
  (h1:(dstOf el ta).run rt=some (es1,ss1)) (h2:(srcOf el size tb).run rt=some (es2,ss2)) (hap:setsApart (ss1++ss2)=true):
  ∃ FS2 fs fd news,HRel (szOf E) z (setCells tick rt (ss1++ss2)) gh w FS2 (fs++(fd++[]))∧
   Keeps ⟨szOf E,w.heap,Inow z w (FS++[]),rt,gh⟩ ⟨szOf E,w.heap,Inow z w (FS2++(fs++(fd++[]))),setCells tick rt (ss1++ss2),gh⟩ (Stm tick rt)∧
   okV (szOf E) w.heap (Inow z w (FS2++(fs++(fd++[])))) (.own el es1) ua fd∧Cells E.P w size ub es2.length news∧
   okEs (szOf E) w.heap (Inow z w (FS2++(fs++(fd++[])))) size es2 news fs:=by
 obtain⟨FS1,fd,r1,kp1,hv,hp⟩:=dst_run h ka h1
 rcases src_run E.P h.heap kb hsz h2 with⟨rfl,news,g1,g2⟩ | ⟨d',ver,path,c,nn,s,rfl,rfl,g1⟩
 ·have e0:setCells tick rt (ss1++[])=setCells tick rt ss1:=by rw[List.append_nil]
  refine⟨FS1,[],fd,news,by rw[e0];exact r1,by rw[e0];exact kp1,hv,g1,okEs_agree ⟨kp1.old,fun b _=>rfl⟩ g2⟩
 ·obtain⟨_,_,h3⟩:=setsApart_append hap
  have h3:=h3 s (by simp)
  have g1':=hp.take g1 h3
  have kb':=(kp1.x kbs kb).2
  obtain⟨q1,q2,q3,FS',f,q4,q5,q6⟩:=r1.take (tick:=tick) kb' g1'
  obtain⟨news,f',m1,m2,m3⟩:=own_cells (P:=E.P) q4
  have hrt:setCells tick rt (ss1++[s])=setCell tick (setCells tick rt ss1) s:=by rw[setCells_append];rfl
  obtain⟨r2,hI⟩:=fewer_floats (X':=f'++(fd++[])) q5 (fun x=>by have:=m3 x;simp only[List.count_append];omega)
  subst hsz
  have kp2:=kp1.trans q6 fun a b hh=>Stm_sets a b hh
  have kp3:=q5.keeps_refl (Stm tick rt) hI
  refine⟨FS',f',fd,news,by rw[hrt];exact r2,by rw[hrt];exact kp2.trans kp3 fun _ _ h=>h,?_,m1,?_⟩
  ·exact okV_agree ⟨fun b hb=>⟨hI b (q6.old b hb).1,rfl⟩,fun b _=>rfl⟩ hv
  ·exact okEs_agree ⟨fun b hb=>⟨hI b (q6.old b hb).1,rfl⟩,fun b _=>rfl⟩ m2
theorem okEs_replicate {sz h I} {s:Nat} {c:List T} {vs:List Value} (hc:okL sz h I c vs []) (hs:c.length=s) (hvs:vs.length=s):∀ (m:Nat) {l:List Value},(∀ j,j<m→(l.drop (j*s)).take s=vs)→okEs sz h I s (List.replicate m c) l []
 | 0,l,_=>by simp[okEs]
 | m+1,l,hl=>by
  simp only[List.replicate_succ,okEs]
  refine⟨[],[],hs,rfl,?_,okEs_replicate hc hs hvs m fun j hj=>?_⟩
  ·have:=hl 0 (by omega)
   simp only[Nat.zero_mul,List.drop_zero] at this
   rw[this];exact hc
  ·have:=hl (j+1) (by omega)
   rw[List.drop_drop]
   have e1:s+j*s=(j+1)*s:=by rw[Nat.succ_mul];omega
   rw[e1];exact this
theorem zeros_row {zero:Array Value} {s m:Nat} (hs:zero.size=s):∀ j,j<m→((((Array.range (m*s)).map (zero[· % zero.size]!)).toList.drop (j*s)).take s)=zero.toList:=by
 intro j hj
 have hle:(j+1)*s≤m*s:=Nat.mul_le_mul_right _ hj
 rw[Nat.succ_mul] at hle
 apply List.ext_getElem?
 intro k
 rw[List.getElem?_take]
 by_cases hk:k<s
 ·rw[if_pos hk,List.getElem?_drop]
  have h1:j*s+k<m*s:=by omega
  have h2:(j*s+k) % zero.size=k:=by rw[hs,Nat.mul_comm,Nat.mul_add_mod,Nat.mod_eq_of_lt hk]
  simp only[Array.toList_map,Array.toList_range,List.getElem?_map]
  rw[List.getElem?_range h1]
  simp only[Option.map_some,h2]
  rw[getElem!_pos zero k (by omega)]
  simp
 ·rw[if_neg hk,List.getElem?_eq_none (by simp;omega)]
theorem wrap64 {m:Int} (h0:0≤m) (h1:m<9223372036854775808):IntKind.i64.wrap m=m:=by
 simp[IntKind.wrap,IntKind.bits,IntKind.signed]
 omega
theorem run_append_zeros {P:Program} (w:World) (t0 t1 ty e:TypeId) (k:IntKind) (i:TypeInfo) (zv:Value) (tys:Array TypeId) (h0:tys[0]?=some t0) (h1:tys[1]?=some t1) (ht:P.underlying t0=some (.slice e)) (hd:P.underlying t1=some (.int k))
  (hi:P.info? e=some i) (hz:i.zero=some zv) (hzs:zv.cells.size=i.size) (m:Int) (hm:0<m) (hmax:m≤4294967296) (hb:i.bytes≤1000):
  (Builtin.append_ tys ty #[.slice none 0 0,.int .i64 m]).run P w=.ok (.slice (some ⟨w.heap.size,0,none⟩) m.toNat (grownCap w m.toNat 0 e))
   (w.drew.alloc (.cells (#[]++Builtin.zeroCells zv.cells m.toNat++Builtin.zeroCells zv.cells (grownCap w m.toNat 0 e - m.toNat)) e (0,0))):=by
 have hw:IntKind.i64.wrap m=m:=wrap64 (by omega) (by omega)
 have hneg:¬ (m<0):=by omega
 have hmn:¬ (m.toNat≤0):=by omega
 have hbm:m*(i.bytes:Int)≤281474976710656:=by
  have h1:m.toNat*i.bytes≤4294967296*1000:=Nat.mul_le_mul (by omega) hb
  have h2:((m.toNat*i.bytes:Nat):Int)=m*i.bytes:=by rw[Int.natCast_mul,Int.toNat_of_nonneg (by omega)]
  omega
 have hbig:¬ (281474976710656<m*(i.bytes:Int)):=by omega
 have h63:¬ (9223372036854775807<(m.toNat:Int)):=by omega
 have hmn2:¬ (m≤0):=by omega
 have h63b:¬ (9223372036854775807<max m 0):=by omega
 have h48:¬ (281474976710656<Builtin.nextslicecap m.toNat 0*i.bytes):=by
  have:Builtin.nextslicecap m.toNat 0=m.toNat:=by unfold Builtin.nextslicecap;rw[if_pos (by omega)]
  rw[this]
  have h1:m.toNat*i.bytes≤4294967296*1000:=Nat.mul_le_mul (by omega) hb
  omega
 have hf:(Builtin.firstCells i.size 0 (.slice none 0 0)).run P w.drew=.ok #[] w.drew:=rfl
 unfold Builtin.append_
 simp only[h0,h1,List.getElem?_toArray,List.getElem?_cons_zero,List.getElem?_cons_succ,Sem.run_bind,run_underlying ht,Result.andThen_ok,sizeOf,run_typeInfo hi,run_underlying hd,Sem.run_pure]
 by_cases hsz:m.toNat*i.size=0
 ·have hzc:Builtin.zeroCells zv.cells m.toNat=#[]:=by unfold Builtin.zeroCells;rw[hzs,hsz];simp[Array.range]
  simp[asInt,asIntOf,hw,hneg,hbig,hmn,hmn2,h63,h63b,h48,typeInfo,zeroValue,hi,hz,Question.forced,hf,newRow,grownCap,hsz,hzc]
 ·simp[asInt,asIntOf,hw,hneg,hbig,hmn,hmn2,h63,h63b,h48,typeInfo,zeroValue,hi,hz,Question.forced,hf,newRow,grownCap,hsz]
theorem op_append {c:Call} (ht:TiOk E) (h:Here E z n tick fr rt gh w FS a) (ho:o.op=.call c) (hc:c.callee=.builtin .append) (hd:EffOk tick rt d e)
  (he:(evOp E call me (St.val fr) tick d ty0 (.call c)).run rt=some e):
  Says E z tick rt gh w FS d e (execOp a.eval o):=by
 simp only[evOp,hc] at he
 obtain⟨ts,h1,he1⟩:=run_bind he
 obtain⟨i,h2,he2⟩:=run_bind he1
 obtain⟨el,h3,he3⟩:=run_bind he2
 obtain⟨ie,h4,he4⟩:=run_bind he3
 clear he he1 he2 he3
 obtain⟨k1,k2⟩:=args_ok h.frame h1
 obtain⟨cs,hcs⟩:=execOp_builtin (a:=a) (E:=E) ho hc w
 split at he4
 ·rename_i ta tb
  obtain⟨ib,h5,he5⟩:=run_bind he4
  split at he5
  ·rename_i hib
   unfold zerosOf at he5
   split at he5
   ·rename_i m
    split at he5
    ·rename_i hcond
     obtain⟨c1,c2,c3⟩:=hcond
     simp only[Rd.run,Option.some.injEq] at he5
     obtain⟨ua,us,q1,ka,q2⟩:=k1
     obtain⟨ub,us',rfl,kb,q3⟩:=q2
     simp only[All2] at q3;subst q3
     have ea:=okX_v.1 ka
     have eb:=okX_v.1 kb
     subst ea;subst eb
     have ha:c.args.map a.eval=#[.slice none 0 0,.int .i64 m]:=by rw[←Array.toList_inj,Array.toList_map,q1]
     obtain⟨t0,a0,a1⟩:=Option.bind_eq_some_iff.1 (run_of h2)
     obtain⟨t1,b0,b1⟩:=Option.bind_eq_some_iff.1 (run_of h5)
     have hu:=(ht _ _ a1).elem el (run_of h3)
     obtain⟨d1,hd1,hint⟩:=(ht _ _ b1).int
     obtain⟨kk,rfl⟩:∃ kk,d1=.int kk:=by cases d1<;>simp[hib] at hint;exact⟨_,rfl⟩
     obtain⟨inf,zv,i1,i2,i3,i4,i5,i6,i7,i8⟩:=(ht _ _ (run_of h4)).info
     have hsz:szOf E el=ie.size:=by simp[szOf,run_of h4]
     have hmax:m≤4294967296:=by simpa[maxElems] using c2
     have hrun:=run_append_zeros (P:=E.P) w t0 t1 o.type el kk inf zv c.argTypes a0 b0 hu hd1 i1 i4 (by rw[i5,i2]) m c1 hmax (by omega)
     have hb:(Go.builtin .append c.argTypes o.type cs #[.slice none 0 0,.int .i64 m]).run E.P w=.ok (.value (.slice (some ⟨w.heap.size,0,none⟩) m.toNat (grownCap w m.toNat 0 el)))
       (w.drew.alloc (.cells (#[]++Builtin.zeroCells zv.cells m.toNat++Builtin.zeroCells zv.cells (grownCap w m.toNat 0 el - m.toNat)) el (0,0))):=by
      simp only[Go.builtin,Sem.run_bind,hrun,Result.andThen_ok];rfl
     unfold Says
     rw[hcs,ha,hb]
     have hzl:(Builtin.zeroCells zv.cells m.toNat).toList.length=(List.replicate m.toNat ie.zero).length*szOf E el:=by
      simp[Builtin.zeroCells,hsz,i5]
     obtain⟨gh',FS',p1,p2,p3,p4⟩:=grow_core (d:=d) (FS:=FS) (rt:=rt) (gh:=gh) (es1:=[]) (es2:=List.replicate m.toNat ie.zero) (olds:=[]) (news:=(Builtin.zeroCells zv.cells m.toNat).toList) (fs:=[]) (fd:=[]) (sLen:=0) (sCap:=0) (run_of h4) (floats0 (floats0 h.heap)) (h.heap.keeps_refl _ fun b hb=>hb) (fun _ _ h=>h)
      (by simp[okEs]) (by simp) (by
       rw[hsz]
       unfold Builtin.zeroCells
       rw[i5]
       exact okEs_replicate (i7 _ _) i6 (by simpa using i5) _ (by have:=zeros_row (zero:=zv.cells) (m:=m.toNat) i5;simpa[i5] using this)) hzl i5
      (fun r0 h0=>newOk_lt (ss:=[]) (hd.new ⟨tick,tick,false,[.own el (List.replicate m.toNat ie.zero)]⟩ (by rw[←he5];rfl)) h0)
      (by unfold grownCap;simp only[Question.cut,List.length_nil,List.length_replicate];omega) rfl
     simp only[List.length_replicate,Nat.zero_add,List.nil_append,Array.toArray_toList] at p1 p2 p3 p4
     show Done _ _ _ _ _ _ _ _ _ _ _
     rw[rtOf_eq,←he5,rooted_sets]
     exact⟨gh',FS',p1,p2,p3,p4⟩
    ·simp[Rd.run] at he5
   ·simp[Rd.run] at he5
  obtain⟨⟨es2,ss2⟩,h6,he6⟩:=run_bind he5
  obtain⟨⟨es1,ss1⟩,h7,he7⟩:=run_bind he6
  clear he4 he5 he6
  split at he7
  ·rename_i hcond
   obtain⟨c1,c2,c3,c4⟩:=hcond
   dsimp only at c2 c3 he7
   simp only[Rd.run,Option.some.injEq] at he7
   obtain⟨ua,us,q1,ka,q2⟩:=k1
   obtain⟨ub,us',rfl,kb,q3⟩:=q2
   simp only[All2] at q3;subst q3
   have ha:c.args.map a.eval=#[ua,ub]:=by rw[←Array.toList_inj,Array.toList_map,q1]
   obtain⟨t0,a0,a1⟩:=Option.bind_eq_some_iff.1 (run_of h2)
   obtain⟨t1,b0,b1⟩:=Option.bind_eq_some_iff.1 (run_of h5)
   have hu:=(ht _ _ a1).elem el (run_of h3)
   obtain⟨d1,hd1,hint⟩:=(ht _ _ b1).int
   obtain⟨inf,zv,i1,i2,i3,i4,i5,i6,i7,i8⟩:=(ht _ _ (run_of h4)).info
   have hnint:∀ k,d1≠.int k:=fun k hk=>by subst hk;simp[hint] at c1
   have hsz:szOf E el=ie.size:=by simp[szOf,run_of h4]
   have hsets:e.sets=ss1++ss2:=by rw[←he7,with_sets.2.2,rooted_sets];rfl
   have hval:e.val=(rooted d tick (.own el (es1++es2))).val:=by rw[←he7];rfl
   have hroot:e.root=(rooted d tick (.own el (es1++es2))).root:=by rw[←he7];rfl
   obtain⟨FS2,fs,fd,news,r,kp,hv,hce,hes⟩:=app_start h hsz ka kb (k2 tb (by simp)) h7 h6 (by rw[←hsets];exact hd.apart)
   have hold:∀ r0,lk (setCells tick rt (ss1++ss2)) d=some r0→r0.ver<tick:=fun r0 h0=>newOk_lt (hd.new _ hroot) h0
   have hone:=okEs_one1 hes c2 hce.len
   have hS:∀ a b,Stm tick rt a b→Stm tick (setCells tick rt (ss1++ss2)) a b:=fun a b hh=>Stm_sets a b hh
   have hcells:∃ base sLen sCap olds f',ua=.slice base sLen sCap∧sLen=es1.length∧Cells E.P w ie.size ua es1.length olds∧
     okEs (szOf E) w.heap (Inow z w (FS2++(fs++(fd++[])))) (szOf E el) es1 olds f'∧(∀ x,f'.count x≤fd.count x):=by
    obtain⟨olds,f',m1,m2,m3⟩:=own_cells (P:=E.P) hv
    rw[hsz] at m1
    have hv2:=hv
    simp only[okV] at hv2
    rcases hv2 with⟨rfl,_,ad,rfl⟩ | ⟨b,o',cap,arr,elt,fz,fs',rfl,_⟩
    ·exact⟨_,_,_,olds,f',rfl,rfl,m1,m2,m3⟩
    ·exact⟨_,_,_,olds,f',rfl,rfl,m1,m2,m3⟩
   obtain⟨base,sLen,sCap,olds,f',hua,hsl,ce1,eo,hcount⟩:=hcells
   have hmax:es1.length+es2.length≤4294967296:=by simpa[maxElems] using c3
   unfold Says
   rw[hcs,ha]
   by_cases hfit:sLen+es2.length≤sCap
   ·have hv2:=hv
    simp only[okV] at hv2
    rcases hv2 with⟨hes1,hfd,ad,hua2⟩ | ⟨b,o',cap,arr,elt,fz,fs',hua2,v2,v3,v4,v5,hfd,v7⟩
    ·rw[hua] at hua2
     simp only[Value.slice.injEq] at hua2
     obtain⟨rfl,rfl,rfl⟩:=hua2
     have hes2:es2=[]:=List.length_eq_zero_iff.1 (by omega)
     subst hes1;subst hes2;subst hfd
     have hnews:news=[]:=List.length_eq_zero_iff.1 (by rw[hce.len];simp)
     subst hnews
     have hrun:=run_append_fits (P:=E.P) (w:=w) t0 t1 o.type el d1 inf c.argTypes a0 b0 hu hd1 hnint i1 base 0 0 0 ub #[] (by simpa using hce.lenOf w) (by rw[i2];simpa using hce.first w rfl) (Nat.le_refl _) w (by cases base<;>rfl)
     have hb:(Go.builtin .append c.argTypes o.type cs #[ua,ub]).run E.P w=.ok (.value (.slice base 0 0)) w:=by
      rw[hua];simp only[Go.builtin,Sem.run_bind,hrun,Result.andThen_ok];rfl
     rw[hb]
     obtain⟨r',hI⟩:=fewer_floats (X':=[]++[]) r (fun x=>by simp)
     obtain⟨gh',FS',p1,p2,p3,p4⟩:=slot_own (d:=d) (tick:=tick) (f:=[]) (e:=el) (es:=[]) (u:=.slice base 0 0) r' (by simp[okV]) hold
     show Done _ _ _ _ _ _ _ _ _ _ _
     rw[rtOf_eq,hsets,hval,hroot]
     exact⟨gh',FS',p1,kp.trans ((r.keeps_refl (Stm tick (setCells tick rt (ss1++ss2))) hI).trans p2 fun _ _ h=>h) hS,p3,p4⟩
    ·rw[hua] at hua2
     simp only[Value.slice.injEq] at hua2
     obtain⟨rfl,rfl,rfl⟩:=hua2
     subst hfd
     have hle:es1.length*ie.size+es2.length*ie.size≤sCap*ie.size:=by rw[←Nat.add_mul];exact Nat.mul_le_mul_right _ hfit
     have hst:=run_storeCells_ok (P:=E.P) (vs:=news) (i:=0) (o:=o'+es1.length*ie.size) (w:=w) v3 (by rw[hce.len];rw[hsz] at v5;omega) v4.1 hone
     have hrun:=run_append_fits (P:=E.P) (w:=w) t0 t1 o.type el d1 inf c.argTypes a0 b0 hu hd1 hnint i1 (some ⟨b,o',none⟩) es1.length sCap es2.length ub news.toArray (hce.lenOf w) (by rw[i2];exact hce.first w rfl) hfit
      (stores w b (o'+es1.length*ie.size) news) (by rw[i2];simpa[addr_add] using hst)
     have hb:(Go.builtin .append c.argTypes o.type cs #[ua,ub]).run E.P w=.ok (.value (.slice (some ⟨b,o',none⟩) (es1.length+es2.length) sCap)) (stores w b (o'+es1.length*ie.size) news):=by
      rw[hua];simp only[Go.builtin,Sem.run_bind,hrun,Result.andThen_ok];rfl
     rw[hb]
     rw[←hsz] at hes hce
     obtain⟨gh',FS',p1,p2,p3,p4⟩:=fits_core (d:=d) r kp hS v3 v4 v5 hfit v7 hes hce.len hold
     show Done _ _ _ _ _ _ _ _ _ _ _
     rw[rtOf_eq,hsets,hval,hroot,←hsz]
     exact⟨gh',FS',p1,p2,p3,p4⟩
   ·have hg:sCap<sLen+es2.length:=by omega
    have hsll:=hsl
    subst hsl
    have h48:Builtin.nextslicecap (es1.length+es2.length) sCap*inf.bytes≤281474976710656:=by
     refine growslice_fits hg ?_
     rw[i3]
     calc (es1.length+es2.length)*ie.bytes≤4294967296*1000:=Nat.mul_le_mul hmax c4
      _≤140737488355328:=by decide
    have hrun:=run_append_grows (P:=E.P) (w:=w) t0 t1 o.type el d1 inf zv c.argTypes a0 b0 hu hd1 hnint i1 i4 base es1.length sCap es2.length ub olds.toArray news.toArray (hce.lenOf w)
     (by rw[i2,←hua];exact ce1.first w.drew rfl) (by rw[i2];exact hce.first w.drew rfl) hg (by omega) h48
    have hb:(Go.builtin .append c.argTypes o.type cs #[ua,ub]).run E.P w=.ok (.value (.slice (some ⟨w.heap.size,0,none⟩) (es1.length+es2.length) (grownCap w (es1.length+es2.length) sCap el)))
      (w.drew.alloc (.cells (olds.toArray++news.toArray++Builtin.zeroCells zv.cells (grownCap w (es1.length+es2.length) sCap el - (es1.length+es2.length))) el (0,0))):=by
     rw[hua];simp only[Go.builtin,Sem.run_bind,hrun,Result.andThen_ok];rfl
    rw[hb]
    obtain⟨r',hI⟩:=fewer_floats (X':=fs++(f'++[])) r (fun x=>by have:=hcount x;simp only[List.count_append];omega)
    rw[←hsz] at hes hce ce1
    obtain⟨gh',FS',p1,p2,p3,p4⟩:=grow_core (d:=d) (sLen:=es1.length) (sCap:=sCap) (run_of h4) r' (kp.trans (r.keeps_refl (Stm tick rt) hI) fun _ _ h=>h) hS
     (okEs_agree ⟨fun b hb=>⟨hI b hb,rfl⟩,fun b _=>rfl⟩ eo) ce1.len (okEs_agree ⟨fun b hb=>⟨hI b hb,rfl⟩,fun b _=>rfl⟩ hes) hce.len i5 hold
     (by unfold grownCap;simp only[Question.cut];omega) rfl
    show Done _ _ _ _ _ _ _ _ _ _ _
    rw[rtOf_eq,hsets,hval,hroot]
    exact⟨gh',FS',p1,p2,p3,p4⟩
  ·simp[Rd.run] at he7
 ·simp[Rd.run] at he4
end app
theorem sliceBounds3 {P:Program} {lo hi mx:Value} {len cap:Nat} {l:Int} {k1 k2 k3:IntKind} (hl:lo=.int k1 l) (hh:hi=.int k2 l) (hm:mx=.int k3 l) (h0:0≤l) (h2:l≤cap) (w:World):
  (Instr.sliceBounds true len cap (some lo) (some hi) (some mx)).run P w=.ok (l.toNat,l.toNat,l.toNat) w∧(l=0→(Instr.sliceBounds true len cap none (some hi) (some mx)).run P w=.ok (0,0,0) w):=by
 subst hl;subst hh;subst hm
 have e1:=sliceBound_ok (P:=P) (k:=k3) (i:=l) (y:=cap) (code:=.slice3Acap) h0 h2 w
 have e2:=sliceBound_ok (P:=P) (k:=k2) (i:=l) (y:=l.toNat) (code:=.slice3B) h0 (by omega) w
 have e3:=sliceBound_ok (P:=P) (k:=k1) (i:=l) (y:=l.toNat) (code:=.slice3C) h0 (by omega) w
 constructor
 ·simp[Instr.sliceBounds,Sem.run_bind,e1,e2,e3]
 ·intro hz
  subst hz
  rw[Int.toNat_zero] at e1 e2
  simp[Instr.sliceBounds,Sem.run_bind,e1,e2]
section app
variable {E:Env} {z:Zn} {n tick:Nat} {fr:List (Nat×T)} {rt:List (Nat×Root)} {gh:Nat→G} {w:World} {FS:List Nat} {a:Act}
variable {call:FuncId→List Arg→Option Res} {me:FuncId} {d:Nat} {ty0:TypeId} {e:Eff} {o:Oper}
theorem op_slice_clip {ty:TypeId} {x:Operand} {lo hi mx:Option Operand} (ht:TiOk E) (h:Here E z n tick fr rt gh w FS a) (ho:o.op=.slice ty x lo hi mx) (hd:EffOk tick rt d e)
  (he:(evOp E call me (St.val fr) tick d ty0 (.slice ty x lo hi mx)).run rt=some e) (hg:globOf E ty x lo hi mx=none) (hm:mx≠none):
  Says E z tick rt gh w FS d e (execOp a.eval o):=by
 simp only[evOp,hg] at he
 obtain⟨t,h1,he1⟩:=run_bind he
 obtain⟨tl,h2,he2⟩:=run_bind he1
 obtain⟨th,h3,he3⟩:=run_bind he2
 obtain⟨tm,h4,he4⟩:=run_bind he3
 clear he he1 he2 he3
 have hx:=run_of h1
 clear h1
 obtain⟨k1,k2⟩:=h.frame.val hx
 obtain⟨mo,rfl⟩:∃ mo,mx=some mo:=by cases mx with | none=>exact absurd rfl hm | some mo=>exact⟨mo,rfl⟩
 have hmne:tm.isEmpty=false:=by
  simp only[Option.toList,args] at h4
  obtain⟨t1,_,h5⟩:=run_bind h4
  obtain⟨t2,_,h6⟩:=run_bind h5
  simp only[Rd.run,Option.some.injEq] at h6
  rw[←h6];rfl
 split at he4
 ·obtain⟨lo',g1,he5⟩:=run_bind he4
  obtain⟨hi',g2,he6⟩:=run_bind he5
  rw[hmne] at he6
  simp[Rd.run] at he6
 ·rename_i el es
  obtain⟨i,g1,he5⟩:=run_bind he4
  obtain⟨l,g2,he6⟩:=run_bind he5
  obtain⟨hh,g3,he7⟩:=run_bind he6
  clear he4 he5 he6
  split at he7
  ·simp[Rd.run] at he7
  ·rename_i hel
   simp only[ne_eq,Decidable.not_not] at hel
   have hu:=(ht _ _ (run_of g1)).elem el hel
   have k1':okV (szOf E) w.heap (Inow z w (FS++[])) (.sl el es) (a.eval x) []:=k1
   simp only[okV,true_and] at k1'
   obtain⟨ad,cap,hv,hcap,r1⟩:=k1'
   split at he7
   ·rename_i hc
    rw[hmne] at hc
    simp at hc
   ·split at he7
    ·rename_i hc
     obtain⟨c0,c1,rfl,c3,c4⟩:=hc
     simp only[Rd.run,Option.some.injEq] at he7
     obtain⟨m,hm⟩:=szE ht (run_of g1) hel w
     have hmo:∃ k,a.eval mo=.int k l:=by
      rcases bound_ok h.frame h4 c4 with⟨h5,_⟩ | ⟨xo,k,h5,hk⟩
      ·simp at h5
      ·simp only[Option.some.injEq] at h5;subst h5;exact⟨k,hk⟩
     have hho:∃ ho k,hi=some ho∧a.eval ho=.int k l:=by
      rcases bound_ok h.frame h3 (run_of g3) with⟨h5,_⟩ | ⟨xo,k,h5,hk⟩
      ·subst h5
       simp only[Option.toList,args,Rd.run,Option.some.injEq] at h3
       rw[←h3] at c0;simp at c0
      ·exact⟨xo,k,h5,hk⟩
     obtain⟨km,hmo⟩:=hmo
     obtain⟨hop,kh,rfl,hho⟩:=hho
     have hlo:(lo=none∧l=0)∨∃ xo k,lo=some xo∧a.eval xo=.int k l:=bound_ok h.frame h2 (run_of g2)
     have hrun:(execOp a.eval o).run E.P w=.ok (.value (.slice ad 0 0)) w:=by
      rcases hlo with⟨rfl,rfl⟩ | ⟨xo,k,rfl,hk⟩
      ·have hb:=(sliceBounds3 (P:=E.P) (lo:=.int km 0) (len:=es.length) (cap:=cap) (k1:=km) rfl hho hmo c1 (by omega) w).2 rfl
       simp only[execOp,ho,hv,Instr.sliceAt,Option.map_none,Option.map_some,Sem.run_bind,run_underlying hu,Result.andThen_ok,Instr.slice,hb,hm.1]
       rfl
      ·have hb:=(sliceBounds3 (P:=E.P) (len:=es.length) (cap:=cap) hk hho hmo c1 (by omega) w).1
       simp only[execOp,ho,hv,Instr.sliceAt,Option.map_some,Sem.run_bind,run_underlying hu,Result.andThen_ok,Instr.slice,hb,hm.1]
       simp
     refine says_slot (ss:=[]) (e0:=rooted d tick (.own el [])) (u:=.slice ad 0 0) (w1:=w) (gh1:=gh) (I1:=Inow z w (FS++([]++[]))) hrun ?_ ?_ ?_ (h.heap.keeps_refl _ fun b hb=>hb) (slot_own (f:=[]) h.heap (by simp[okV]) ?_)
     ·rw[←he7];exact rooted_sets
     ·rw[←he7]
     ·rw[←he7]
     ·intro r0 h0
      exact newOk_lt (ss:=[]) (hd.new ⟨tick,tick,false,[.own el []]⟩ (by rw[←he7];rfl)) h0
    ·simp[Rd.run] at he7
 ·obtain⟨lo',g1,he5⟩:=run_bind he4
  obtain⟨hi',g2,he6⟩:=run_bind he5
  rw[hmne] at he6
  simp[Rd.run] at he6
 ·obtain⟨i,g1,he5⟩:=run_bind he4
  obtain⟨l,g2,he6⟩:=run_bind he5
  obtain⟨hh,g3,he7⟩:=run_bind he6
  obtain⟨rr,g4,he8⟩:=run_bind he7
  rw[hmne] at he8
  simp[Rd.run] at he8
 ·simp[Rd.run] at he4
theorem okEs_takeF {sz h I} {s:Nat}:∀ {es:List (List T)} {l f} (k:Nat),okEs sz h I s es l f→∃ f',okEs sz h I s (es.take k) l f'∧∀ x,f'.count x≤f.count x
 | es,l,f,0,_=>⟨[],by simp[okEs],fun x=>by simp⟩
 | [],l,f,k+1,hk=>⟨f,by simpa using hk,fun x=>Nat.le_refl _⟩
 | c::es,l,f,k+1,hk=>by
  simp only[okEs] at hk
  obtain⟨f1,f2,h1,rfl,h3,h4⟩:=hk
  obtain⟨f',h5,h6⟩:=okEs_takeF k h4
  refine⟨f1++f',?_,fun x=>by have:=h6 x;simp only[List.count_append];omega⟩
  simp only[List.take_succ_cons,okEs]
  exact⟨f1,f',h1,rfl,h3,h5⟩
theorem op_slice_take {ty:TypeId} {x:Operand} {lo hi:Option Operand} {d' ver c m:Nat} {path:List (Nat×Nat)} (ht:TiOk E) (h:Here E z n tick fr rt gh w FS a) (ho:o.op=.slice ty x lo hi none) (hd:EffOk tick rt d e)
  (he:(evOp E call me (St.val fr) tick d ty0 (.slice ty x lo hi none)).run rt=some e) (hg:globOf E ty x lo hi none=none) (hx:St.val fr x=some (.ref d' ver path c m)):
  Says E z tick rt gh w FS d e (execOp a.eval o):=by
 simp only[evOp,hx,hg] at he
 obtain⟨t,h1,he1⟩:=run_bind he
 have ht1:=run_of h1
 simp only[Option.some.injEq] at ht1
 subst ht1
 obtain⟨tl,h2,he2⟩:=run_bind he1
 obtain⟨th,h3,he3⟩:=run_bind he2
 obtain⟨tm,h4,he4⟩:=run_bind he3
 clear he he1 he2 he3
 obtain⟨k1,k2⟩:=h.frame.val hx
 simp only[Option.toList,args,Rd.run,Option.some.injEq] at h4;subst h4
 dsimp only at he4
 obtain⟨i,g1,he5⟩:=run_bind he4
 obtain⟨l,g2,he6⟩:=run_bind he5
 obtain⟨hh,g3,he7⟩:=run_bind he6
 obtain⟨⟨⟨el,es⟩,sc⟩,g4,he8⟩:=run_bind he7
 clear he4 he5 he6 he7
 dsimp only at he8
 split at he8
 ·rename_i hc
  obtain⟨c0,_,rfl,c2,c3⟩:=hc
  simp only[Rd.run,Option.some.injEq] at he8
  subst he8
  obtain⟨⟨ad,cap,hu⟩,k3⟩:=k1
  obtain⟨q1,q2,q3,FS',f,q4,q5,q6⟩:=h.heap.take (tick:=tick) k3 g4
  have hue:=(ht _ _ (run_of g1)).elem el c0
  obtain⟨mm,hm⟩:=szE ht (run_of g1) c0 w
  have hcap:m≤cap∧(cap=0∨∃ b o,ad=some ⟨b,o,none⟩):=by
   simp only[okV] at q4
   rw[hu] at q4
   rcases q4 with⟨rfl,_,a2,h5⟩ | ⟨b,o2,cap2,arr,elt,fz,fs',h5,h6,_⟩
   ·simp only[Value.slice.injEq] at h5;simp only[List.length_nil] at q3;exact⟨by omega,.inl h5.2.2⟩
   ·simp only[Value.slice.injEq] at h5
    obtain⟨h8,h7,rfl⟩:=h5
    exact⟨by omega,.inr ⟨b,o2,h8⟩⟩
  obtain⟨hcap,hadf⟩:=hcap
  have hl:(lo.map a.eval=none∧(0:Int)=0)∨∃ k,lo.map a.eval=some (.int k 0):=by
   rcases bound_ok h.frame h2 (run_of g2) with⟨rfl,_⟩ | ⟨xo,k,rfl,hk⟩
   ·exact .inl ⟨rfl,rfl⟩
   ·exact .inr ⟨k,by simp[hk]⟩
  have hhi:(hi.map a.eval=none∧hh=m)∨∃ k,hi.map a.eval=some (.int k hh):=by
   rcases bound_ok h.frame h3 (run_of g3) with⟨rfl,rfl⟩ | ⟨xo,k,rfl,hk⟩
   ·exact .inl ⟨rfl,rfl⟩
   ·exact .inr ⟨k,by simp[hk]⟩
  have hb:=sliceBounds2 (P:=E.P) hl hhi (Int.le_refl 0) c2 c3 hcap w
  have hrun:(execOp a.eval o).run E.P w=.ok (.value (.slice ad hh.toNat cap)) w:=by
   simp only[execOp,ho,hu,Instr.sliceAt,Option.map_none,Sem.run_bind,run_underlying hue,Result.andThen_ok,Instr.slice,hb,hm.1]
   rcases hadf with rfl | ⟨b,o2,rfl⟩
   ·simp
   ·simp[addr_add]
  have hown:∃ f',okV (szOf E) w.heap (Inow z w (FS'++(f++[]))) (.own el (es.take hh.toNat)) (.slice ad hh.toNat cap) f'∧∀ x,f'.count x≤f.count x:=by
   have hlen:(es.take hh.toNat).length=hh.toNat:=by rw[List.length_take];omega
   have q4':=okV_agree (h':=w.heap) (I':=Inow z w (FS'++(f++[]))) ⟨fun b hb=>q6.old b hb,fun b _=>rfl⟩ q4
   simp only[okV] at q4' ⊢
   rw[hu] at q4'
   rcases q4' with⟨rfl,rfl,a2,h5⟩ | ⟨b,o2,cap2,arr,elt,fz,fs',h5,h6,h7,h8,h9,rfl,h10⟩
   ·simp only[Value.slice.injEq] at h5
    obtain⟨rfl,rfl,rfl⟩:=h5
    have:hh.toNat=0:=by omega
    rw[this]
    exact⟨[],.inl ⟨by simp,rfl,ad,rfl⟩,fun x=>by simp⟩
   ·simp only[Value.slice.injEq] at h5
    obtain⟨rfl,h11,rfl⟩:=h5
    obtain⟨f',h12,h13⟩:=okEs_takeF hh.toNat h10
    refine⟨b::f',.inr ⟨b,o2,cap,arr,elt,fz,f',by rw[hlen],by rw[hlen];omega,h7,h8,h9,rfl,h12⟩,fun x=>by have:=h13 x;simp only[List.count_cons];omega⟩
  obtain⟨f',w1,w2⟩:=hown
  obtain⟨r5,hI5⟩:=fewer_floats (X':=f'++[]) q5 (fun x=>by have:=w2 x;simp only[List.count_append,List.count_nil];omega)
  refine says_slot (ss:=[sc]) (e0:=rooted d tick (.own el (es.take hh.toNat))) (u:=.slice ad hh.toNat cap) (w1:=w) (gh1:=gh) hrun ?_ rfl rfl (q6.trans (q5.keeps_refl (Stm tick rt) hI5) (fun _ _ h=>h)) (slot_own r5 ?_ ?_)
  ·rw[with_sets.2.2,rooted_sets];rfl
  ·exact okV_agree ⟨fun b hb=>⟨hI5 b hb,rfl⟩,fun b _=>rfl⟩ w1
  ·intro r1 h1
   exact newOk_lt (ss:=[sc]) (hd.new ⟨tick,tick,false,[.own el (es.take hh.toNat)]⟩ (by rw[with_sets.2.1];rfl)) h1
 ·simp[Rd.run] at he8
theorem op_makeSlice {ty:TypeId} {nn cc:Operand} (ht:TiOk E) (h:Here E z n tick fr rt gh w FS a) (ho:o.op=.makeSlice ty nn cc) (hd:EffOk tick rt d e)
  (he:(evOp E call me (St.val fr) tick d ty0 (.makeSlice ty nn cc)).run rt=some e):
  Says E z tick rt gh w FS d e (execOp a.eval o):=by
 simp only[evOp] at he
 obtain⟨tn,h1,he1⟩:=run_bind he
 obtain⟨tc,h2,he2⟩:=run_bind he1
 obtain⟨i,h3,he3⟩:=run_bind he2
 obtain⟨el,h4,he4⟩:=run_bind he3
 obtain⟨ie,h5,he5⟩:=run_bind he4
 clear he he1 he2 he3 he4
 have hn:=run_of h1
 have hc:=run_of h2
 clear h1 h2
 obtain⟨k1,k1s⟩:=h.frame.val hn
 obtain⟨k2,k2s⟩:=h.frame.val hc
 split at he5
 ·rename_i m c
  split at he5
  ·rename_i hcond
   obtain⟨rfl,c1,c2,c3⟩:=hcond
   simp only[Rd.run,Option.some.injEq] at he5
   have v1:=okX_v.1 k1
   have v2:=okX_v.1 k2
   have hu:=(ht _ _ (run_of h3)).elem el (run_of h4)
   obtain⟨inf,zv,i1,i2,i3,i4,i5,i6,i7,i8⟩:=(ht _ _ (run_of h5)).info
   have te:=ht _ _ (run_of h5)
   have hmax:m≤4294967296:=by simpa[maxElems] using c2
   have hw:=wrap64 c1 (by omega)
   have hbig:¬ ((inf.bytes:Int)*m > 281474976710656):=by
    have h1:inf.bytes*m.toNat≤1000*4294967296:=Nat.mul_le_mul (by omega) (by omega)
    have h2:((inf.bytes*m.toNat:Nat):Int)=inf.bytes*m:=by rw[Int.natCast_mul,Int.toNat_of_nonneg c1]
    omega
   have hrun:(execOp a.eval o).run E.P w=.ok (.value (.slice (some ⟨w.heap.size,0,none⟩) m.toNat m.toNat)) (w.alloc (.cells ((Array.range (m.toNat*ie.size)).map (zv.cells[· % zv.cells.size]!)) el (0,0))):=by
    have hneg:¬ (m<0):=by omega
    by_cases hz:m.toNat*ie.size=0
    ·simp[execOp,ho,v1,v2,Instr.makeSlice,Sem.run_bind,run_underlying hu,run_typeInfo i1,asInt,asIntOf,hw,hneg,hbig,te.size,hz,newRow]
     simp[Array.range]
    ·simp[execOp,ho,v1,v2,Instr.makeSlice,Sem.run_bind,run_underlying hu,run_typeInfo i1,asInt,asIntOf,hw,hneg,hbig,te.size,hz,newRow,zeroValue,i4]
   have hk:okEs (szOf E) w.heap (Inow z w (FS++([]++[]))) (szOf E el) (List.replicate m.toNat ie.zero) ((Array.range (m.toNat*ie.size)).map (zv.cells[· % zv.cells.size]!)).toList []:=by
    have hsz:szOf E el=ie.size:=by simp[szOf,run_of h5]
    rw[hsz]
    exact okEs_replicate (i7 _ _) i6 (by simpa using i5) _ (zeros_row i5)
   have hsz:szOf E el=ie.size:=by simp[szOf,run_of h5]
   obtain⟨gh',FS',p1,p2,p3,p4⟩:=slot_slice (d:=d) (tick:=tick) (el:=el) (e':=el) (es:=List.replicate m.toNat ie.zero) (cap:=m.toNat) (fz:=(0,0)) (f:=[]) (floats0 h.heap) hk (by simp) (by simp[hsz])
    (fun r0 h0=>newOk_lt (ss:=[]) (hd.new ⟨tick,tick,false,[.own el (List.replicate m.toNat ie.zero)]⟩ (by rw[←he5];rfl)) h0) fzOk_zero
   rw[List.length_replicate] at p3
   unfold Says
   rw[hrun,←he5]
   show Done _ _ _ _ _ _ _ _ _ _ _
   rw[rtOf_eq,rooted_sets]
   exact⟨gh',FS',p1,p2,p3,p4⟩
  ·simp[Rd.run] at he5
 ·simp[Rd.run] at he5
theorem op_bytes {src dst:TypeId} {x:Operand} {s:ByteArray} (ht:TiOk E) (h:Here E z n tick fr rt gh w FS a) (ho:o.op=.convert src dst x) (hd:EffOk tick rt d e)
  (he:(evOp E call me (St.val fr) tick d ty0 (.convert src dst x)).run rt=some e) (hx:St.val fr x=some (.v (.string s))) {i:TInfo} (hi:E.ti dst=some i) {el:TypeId} (hel:i.elem=some el):
  Says E z tick rt gh w FS d e (execOp a.eval o):=by
 simp only[evOp] at he
 obtain⟨t,h1,he1⟩:=run_bind he
 have h1:=run_of h1
 rw[hx] at h1
 simp only[Option.some.injEq] at h1
 rw[←h1] at he1
 dsimp only at he1
 obtain⟨i',h2,he2⟩:=run_bind he1
 have h2:=run_of h2
 rw[hi] at h2
 simp only[Option.some.injEq] at h2
 rw[←h2,hel] at he2
 dsimp only at he2
 obtain⟨ie,h3,he3⟩:=run_bind he2
 split at he3
 ·rename_i hc
  obtain⟨c1,c2⟩:=hc
  simp only[Rd.run,Option.some.injEq] at he3
  obtain⟨el',u1,u2,u3⟩:=run_u8 c1
  have hu:=(ht _ _ hi).elem el hel
  rw[u1] at hu
  simp only[Option.some.injEq,TypeDesc.slice.injEq] at hu
  subst hu
  have hv:=okX_v.1 (h.frame.val hx).1
  have hrun:(execOp a.eval o).run E.P w=.ok (.value (.slice (some ⟨w.heap.size,0,none⟩) s.size (grownCap w s.size 0 el')))
    (w.drew.alloc (.cells (bytesRow s (grownCap w s.size 0 el')) el' ((bytesRow s (grownCap w s.size 0 el')).size,(bytesRow s (grownCap w s.size 0 el')).size+1))):=by
   simp only[execOp,ho,hv,Sem.run_bind]
   rw[run_bytes_of_string w src dst el' s u3 u1 u2]
   rfl
  have hsz:szOf E el'=1:=by simp[szOf,run_of h3,c2]
  have hcap:s.size≤grownCap w s.size 0 el':=by unfold grownCap;simp only[Question.cut];omega
  have hl:(bytesT s).length=s.size:=by simp[bytesT]
  have hrow:(bytesRow s (grownCap w s.size 0 el')).size=grownCap w s.size 0 el':=by
   simp only[bytesRow,Array.size_append,Array.size_map,Array.size_replicate]
   have:s.data.size=s.size:=rfl
   omega
  have hk:okEs (szOf E) w.heap (Inow z w (FS++([]++[]))) (szOf E el') (bytesT s) (bytesRow s (grownCap w s.size 0 el')).toList []:=by
   rw[hsz]
   refine okEs_ext (bytes_cells (P:=E.P) (w:=w) s).2 ?_
   have hlen:(s.data.toList.map fun b=>Value.int .u8 b.toNat).length=s.size:=by rw[List.length_map];rfl
   rw[hl,Nat.mul_one]
   simp only[bytesRow,Array.toList_append,Array.toList_map]
   rw[List.take_append_of_le_length (by omega)]
  have hr:HRel (szOf E) z rt gh w.drew FS ([]++[]):=h.heap.drew
  obtain⟨gh',FS',p1,p2,p3,p4⟩:=slot_slice (d:=d) (tick:=tick) (el:=el') (e':=el') (es:=bytesT s) (cap:=grownCap w s.size 0 el') (arr:=bytesRow s (grownCap w s.size 0 el'))
   (fz:=((bytesRow s (grownCap w s.size 0 el')).size,(bytesRow s (grownCap w s.size 0 el')).size+1)) (f:=[]) hr hk (by omega) (by rw[hsz];omega)
   (fun r0 h0=>newOk_lt (ss:=[]) (hd.new ⟨tick,tick,false,[.own el' (bytesT s)]⟩ (by rw[←he3];rfl)) h0) ⟨fun i hi h=>by omega,.inl hsz⟩
  rw[hl] at p3
  unfold Says
  rw[hrun,←he3]
  show Done _ _ _ _ _ _ _ _ _ _ _
  rw[rtOf_eq,rooted_sets]
  exact⟨gh',FS',p1,p2,p3,p4⟩
 ·simp[Rd.run] at he3
end app
theorem foldl_set {off:Nat}:∀ (l:List Value) (k:Nat) (cells:Array Value),off+k+l.length≤cells.size→
  ((l.zipIdx k).foldl (fun cs p=>cs.setIfInBounds (off+p.2) p.1) cells).toList=cells.toList.take (off+k)++l++cells.toList.drop (off+k+l.length)
 | [],k,cells,h=>by simp
 | v::l,k,cells,h=>by
  simp only[List.length_cons] at h
  simp only[List.zipIdx_cons,List.foldl_cons]
  have hol:off+k<cells.toList.length:=by rw[Array.length_toList];omega
  rw[foldl_set l (k+1) _ (by simp;omega)]
  have e1:(cells.setIfInBounds (off+k) v).toList.take (off+(k+1))=cells.toList.take (off+k)++[v]:=by
   rw[Array.toList_setIfInBounds,List.set_eq_take_append_cons_drop,if_pos hol,List.take_append]
   have:(cells.toList.take (off+k)).length=off+k:=by rw[List.length_take];omega
   rw[this,List.take_of_length_le (by omega)]
   have e2:off+(k+1) - (off+k)=1:=by omega
   rw[e2];simp
  have e2:(cells.setIfInBounds (off+k) v).toList.drop (off+(k+1)+l.length)=cells.toList.drop (off+k+(l.length+1)):=by
   rw[Array.toList_setIfInBounds,List.drop_set_of_lt (by omega)]
   congr 1;omega
  rw[e1,e2]
  simp
theorem fill_cells {off:Nat} {v:Value} {cells:Array Value} (h:off+v.cells.size≤cells.size):
  (v.cells.zipIdx.foldl (fun cs (c,j)=>cs.setIfInBounds (off+j) c) cells).toList=cells.toList.take off++v.cells.toList++cells.toList.drop (off+v.cells.size):=by
 have:=foldl_set (off:=off) v.cells.toList 0 cells (by rw[Array.length_toList];omega)
 rw[Nat.add_zero,Array.length_toList] at this
 rw[←this,←Array.foldl_toList,Array.toList_zipIdx]
def Q1 (x:Cx) (S:Nat→Nat→Prop) (c:T) (u:Value):Prop:=
 (isOwn c=true→okV x.sz x.h x.I c u [])∧(isOwn c=false→∀ d v p k,okX0 x (view1 d v p k c) u∧st0 S (view1 d v p k c))
theorem okMix_All2 {x:Cx} {S}:∀ {cs us},okMix x S cs us []↔All2 (Q1 x S) cs us
 | [],us=>by simp[okMix,All2]
 | c::cs,us=>by
  constructor
  ·intro h
   simp only[okMix] at h
   obtain⟨u,us',f1,f2,rfl,hf,h1,h2,h3⟩:=h
   obtain⟨rfl,rfl⟩:f1=[]∧f2=[]:=by simpa using hf.symm
   exact⟨u,us',rfl,⟨h1,fun hc=>(h2 hc).2⟩,okMix_All2.1 h3⟩
  ·rintro⟨u,us',rfl,⟨h1,h2⟩,h3⟩
   exact⟨u,us',[],[],rfl,rfl,h1,fun hc=>⟨rfl,h2 hc⟩,okMix_All2.2 h3⟩
theorem All2.append {α β:Type} {R:α→β→Prop}:∀ {a1 a2:List α} {b1 b2:List β},All2 R a1 b1→All2 R a2 b2→All2 R (a1++a2) (b1++b2)
 | [],a2,b1,b2,h1,h2=>by simp only[All2] at h1;subst h1;simpa using h2
 | x::a1,a2,b1,b2,h1,h2=>by
  obtain⟨b,bs,rfl,g1,g2⟩:=h1
  exact⟨b,bs++b2,rfl,g1,g2.append h2⟩
theorem Q1_of {x:Cx} {S} {c:T} {u:Value} (h:okX0 x c u) (hs:st0 S c):Q1 x S c u:=by
 refine⟨fun hc=>?_,fun hc d v p k=>?_⟩
 ·cases c<;>first | exact h | simp[isOwn] at hc
 ·cases c<;>first
   | exact⟨h,hs⟩
   | exact⟨okX0_dead,trivial⟩
   | simp[isOwn] at hc
theorem All2.Q1 {x:Cx} {S}:∀ {cs us},All2 (okX0 x) cs us→(∀ c,c∈cs→st0 S c)→All2 (Q1 x S) cs us
 | [],us,h,_=>h
 | c::cs,us,h,hs=>by
  obtain⟨u,us',rfl,h1,h2⟩:=h
  exact⟨u,us',rfl,Q1_of h1 (hs c (by simp)),h2.Q1 fun c hc=>hs c (by simp[hc])⟩
theorem fillParts_ok {x:Cx} {S} {i:TInfo}:∀ {ps:List (Nat×List T)} {vps:List (Nat×Value)} {cs cs':List T} {us:Array Value},fillParts i cs ps=some cs'→All2 (Q1 x S) cs us.toList→
  All2 (fun p v=>p.1=v.1∧All2 (Q1 x S) p.2 v.2.cells.toList) ps vps→∃ us',Instr.fill (i.fields.toArray[·]?) us vps=some us'∧All2 (Q1 x S) cs' us'.toList
 | [],vps,cs,cs',us,h,hk,hp=>by
  simp only[All2] at hp;subst hp
  simp only[fillParts,Option.some.injEq] at h;subst h
  exact⟨us,rfl,hk⟩
 | (k,xs)::ps,vps,cs,cs',us,h,hk,hp=>by
  obtain⟨⟨k',v⟩,vps',rfl,⟨rfl,h1⟩,h2⟩:=hp
  simp only[fillParts] at h
  split at h
  ·rename_i off size hf
   split at h
   ·rename_i hc
    obtain⟨c1,c2⟩:=hc
    have l1:us.size=cs.length:=by have:=hk.len;rwa[Array.length_toList] at this
    have l2:v.cells.size=xs.length:=by have:=h1.len;rwa[Array.length_toList] at this
    have hfit:off+v.cells.size≤us.size:=by omega
    obtain⟨us',g1,g2⟩:=fillParts_ok (us:=v.cells.zipIdx.foldl (fun cs (c,j)=>cs.setIfInBounds (off+j) c) us) h (by
     rw[fill_cells hfit]
     unfold splice
     rw[l2]
     exact ((hk.take off).append h1).append (hk.drop (off+xs.length))) h2
    refine⟨us',?_,g2⟩
    have hf':i.fields.toArray[k]?=some (off,size):=by rw[List.getElem?_toArray];exact hf
    dsimp only
    unfold Instr.fill
    simp only[hf']
    rw[if_neg (by simp;omega)]
    exact g1
   ·simp at h
  ·simp at h
section lit
variable {E:Env} {z:Zn} {n tick:Nat} {fr:List (Nat×T)} {rt:List (Nat×Root)} {gh:Nat→G} {w:World} {FS:List Nat} {a:Act}
variable {call:FuncId→List Arg→Option Res} {me:FuncId} {d:Nat} {ty0:TypeId} {e:Eff} {o:Oper}
theorem buildParts_ok {x:Cx} {S:Nat→Nat→Prop} {nn:Nat} (f:FRel x S nn fr a):∀ {ps:List (Nat×Operand)} {ts:List (Nat×T)},(evBuildParts E (St.val fr) ps).run rt=some ts→
  All2 (fun p v=>p.1=v.1∧okX x p.2 v.2∧stX S p.2) ts (ps.map fun p=>(p.1,a.eval p.2))
 | [],ts,h=>by simp only[evBuildParts,Rd.run,Option.some.injEq] at h;subst h;rfl
 | (k,o)::ps,ts,h=>by
  simp only[evBuildParts] at h
  obtain⟨t,h1,h2⟩:=run_bind h
  obtain⟨ts',h3,h4⟩:=run_bind h2
  simp only[Rd.run,Option.some.injEq] at h4;subst h4
  obtain⟨k1,k2⟩:=f.val (run_of h1)
  exact⟨_,_,rfl,⟨rfl,k1,k2⟩,buildParts_ok f h3⟩
theorem op_build {ty:TypeId} {parts:Array (Nat×Operand)} (ht:TiOk E) (h:Here E z n tick fr rt gh w FS a) (ho:o.op=.build ty parts) (hd:EffOk tick rt d e)
  (he:(evOp E call me (St.val fr) tick d ty0 (.build ty parts)).run rt=some e):
  Says E z tick rt gh w FS d e (execOp a.eval o):=by
 simp only[evOp] at he
 obtain⟨i,h1,he1⟩:=run_bind he
 obtain⟨ps,h2,he2⟩:=run_bind he1
 clear he he1
 split at he2
 ·simp[Rd.run] at he2
 ·rename_i hc
  simp only[Bool.or_eq_true,not_or,Bool.not_eq_true,List.isEmpty_eq_false_iff,List.any_eq_false] at hc
  obtain⟨c1,c2⟩:=hc
  split at he2
  ·rename_i cs hcs
   simp only[Rd.run,Option.some.injEq] at he2
   have ti:=ht _ _ (run_of h1)
   obtain⟨inf,zv,i1,i2,i3,i4,i5,i6,i7,i8⟩:=ti.info
   obtain⟨fs,u1,u2⟩:=ti.places c1
   have hp:=buildParts_ok h.frame h2
   have hp2:All2 (fun p v=>p.1=v.1∧All2 (Q1 ⟨szOf E,w.heap,Inow z w (FS++[]),rt,gh⟩ (Stm tick rt)) p.2 v.2.cells.toList) (ps.map fun p=>(p.1,partCells (zeroAt i p.1) p.2)) (parts.toList.map fun p=>(p.1,a.eval p.2)):=by
    have:∀ {ps:List (Nat×T)} {vs:List (Nat×Value)},(∀ p,p∈ps→isDead p.2=false)→All2 (fun p v=>p.1=v.1∧okX ⟨szOf E,w.heap,Inow z w (FS++[]),rt,gh⟩ p.2 v.2∧stX (Stm tick rt) p.2) ps vs→
      All2 (fun p v=>p.1=v.1∧All2 (Q1 ⟨szOf E,w.heap,Inow z w (FS++[]),rt,gh⟩ (Stm tick rt)) p.2 v.2.cells.toList) (ps.map fun p=>(p.1,partCells (zeroAt i p.1) p.2)) vs:=by
     intro ps
     induction ps with
     | nil=>intro vs _ h;exact h
     | cons p ps ih=>
      intro vs hd h
      obtain⟨v,vs',rfl,⟨q1,q2,q3⟩,q4⟩:=h
      obtain⟨m1,m2⟩:=part_cells (zero:=zeroAt i p.1) q2 q3 (fun hh=>by have:=hd p (by simp);rw[hh] at this;simp[isDead] at this)
      exact⟨v,vs',rfl,⟨q1,m1.Q1 m2⟩,ih (fun p hp=>hd p (by simp[hp])) q4⟩
    exact this (fun p hp=>by have:=c2 p hp;simpa using this) hp
   have hz:All2 (Q1 ⟨szOf E,w.heap,Inow z w (FS++[]),rt,gh⟩ (Stm tick rt)) i.zero zv.cells.toList:=by
    obtain⟨m1,m2⟩:=okL_0 (x:=⟨szOf E,w.heap,Inow z w (FS++[]),rt,gh⟩) (S:=Stm tick rt) (i7 w.heap (Inow z w (FS++[])))
    exact m1.Q1 m2
   obtain⟨us,g1,g2⟩:=fillParts_ok hcs hz hp2
   have hrun:(execOp a.eval o).run E.P w=.ok (.value (.agg us)) w:=by
    have hzv:(zeroValue ty).run E.P w=.ok zv w:=by simp[zeroValue,run_typeInfo i1,i4]
    simp only[execOp,ho,Instr.build,Sem.run_bind,hzv,Result.andThen_ok,run_underlying u1,u2,Array.toList_map]
    rw[g1]
    rfl
   refine says_slot (ss:=[]) (e0:=rooted d tick (.agg cs)) (u:=.agg us) (w1:=w) (gh1:=gh) (I1:=Inow z w (FS++([]++[]))) hrun ?_ ?_ ?_ (h.heap.keeps_refl _ fun b hb=>hb) ?_
   ·rw[←he2];exact rooted_sets
   ·rw[←he2]
   ·rw[←he2]
   ·have:=slot_agg (d:=d) (tick:=tick) (f:=[]) (floats0 h.heap) (okMix_All2.2 g2) (fun ha r0 h0=>newOk_lt (ss:=[]) (hd.new ⟨tick,tick,false,cs.map bare⟩ (by rw[←he2];simp[rooted,ha])) h0)
    rwa[Array.toArray_toList] at this
  ·simp[Rd.run] at he2
end lit
def okParts (sz:TypeId→Nat) (h:Array Obj) (I:Nat→Prop):List (Nat×List T)→List (Nat×Value)→List Nat→Prop
 | [],vs,f=>vs=[]∧f=[]
 | p::ps,vs,f=>∃ v vs' f1 f2,vs=v::vs'∧f=f1++f2∧p.1=v.1∧okL sz h I p.2 v.2.cells.toList f1∧okParts sz h I ps vs' f2
theorem okParts_agree {sz h h' I I'}:∀ {ps vs f},Agree h h' I I' f→okParts sz h I ps vs f→okParts sz h' I' ps vs f
 | [],vs,f,_,hk=>hk
 | p::ps,vs,f,ha,hk=>by
  obtain⟨v,vs',f1,f2,rfl,rfl,h1,h2,h3⟩:=hk
  exact⟨v,vs',f1,f2,rfl,rfl,h1,okL_agree ha.left h2,okParts_agree ha.right h3⟩
theorem fillElems_ok {sz hp I} {s:Nat}:∀ {ps:List (Nat×List T)} {vps:List (Nat×Value)} {es es':List (List T)} {l:Array Value} {f0 f:List Nat},fillElems s es ps=some es'→
  okEs sz hp I s es l.toList f0→l.size=es.length*s→okParts sz hp I ps vps f→
  ∃ l' f',Instr.fill (fun i=>some (i*s,s)) l vps=some l'∧okEs sz hp I s es' l'.toList f'∧l'.size=es'.length*s∧es'.length=es.length∧∀ x,f'.count x≤f0.count x+f.count x
 | [],vps,es,es',l,f0,f,h,hk,hl,hpp=>by
  obtain⟨rfl,rfl⟩:=hpp
  simp only[fillElems,Option.some.injEq] at h;subst h
  exact⟨l,f0,rfl,hk,hl,rfl,fun x=>by simp⟩
 | (k,xs)::ps,vps,es,es',l,f0,f,h,hk,hl,hpp=>by
  obtain⟨⟨k',v⟩,vps',f1,f2,rfl,rfl,rfl,h1,h2⟩:=hpp
  simp only[fillElems] at h
  split at h
  ·rename_i hc
   obtain⟨c1,c2⟩:=hc
   dsimp only at h1
   have l2:v.cells.size=xs.length:=by have:=okL_length h1;rwa[Array.length_toList] at this
   have hle:(k+1)*s≤es.length*s:=Nat.mul_le_mul_right _ c2
   rw[Nat.succ_mul] at hle
   have hfit:k*s+v.cells.size≤l.size:=by omega
   have hfc:=fill_cells hfit
   generalize hl1:(v.cells.zipIdx.foldl (fun cs (c,j)=>cs.setIfInBounds (k*s+j) c) l)=l1 at hfc
   have hg:es[k]?=some es[k]:=by simp[c2]
   obtain⟨fo,fr,g0,g1,g2,g3⟩:=okEs_focus hk hg
   have hll:l.toList.length=l.size:=Array.length_toList
   have hvl:v.cells.toList.length=s:=by rw[Array.length_toList];omega
   have e1:(l1.toList.drop (k*s)).take s=v.cells.toList:=by
    rw[hfc,List.append_assoc,List.drop_append_of_le_length (by rw[List.length_take];omega),List.drop_take,Nat.sub_self,List.take_zero,List.nil_append,List.take_append_of_le_length (by omega),List.take_of_length_le (by omega)]
   have e2:l1.toList.take (k*s)=l.toList.take (k*s):=by
    rw[hfc,List.append_assoc,List.take_append_of_le_length (by rw[List.length_take];omega),List.take_take,Nat.min_self]
   have e3:l1.toList.drop (k*s+s)=l.toList.drop (k*s+s):=by
    rw[hfc,List.drop_append,List.drop_of_length_le (by rw[List.length_append,List.length_take];omega),List.nil_append,List.drop_drop]
    congr 1
    rw[List.length_append,List.length_take];omega
   obtain⟨fs',q1,q2⟩:=g3 hp I xs l1.toList f1 ⟨fun b hb=>⟨hb,rfl⟩,fun b _=>rfl⟩ c1 (by rw[e1];exact h1) e2 e3
   have hl1s:l1.size=(es.set k xs).length*s:=by
    have:=congrArg List.length hfc
    rw[Array.length_toList,List.length_append,List.length_append,List.length_take,List.length_drop] at this
    rw[List.length_set];omega
   obtain⟨l',f',m1,m2,m3,m4,m5⟩:=fillElems_ok h q1 hl1s h2
   refine⟨l',f',?_,m2,m3,by rw[m4,List.length_set],fun x=>?_⟩
   ·unfold Instr.fill
    simp only
    rw[if_neg (by simp;omega),hl1]
    exact m1
   ·have a1:=m5 x
    have a2:=q2 x
    have a3:=g1 x
    simp only[List.count_append]
    omega
  ·simp at h
section lit
variable {E:Env} {z:Zn} {n tick:Nat} {fr:List (Nat×T)} {rt:List (Nat×Root)} {gh:Nat→G} {w:World} {FS:List Nat} {a:Act}
variable {call:FuncId→List Arg→Option Res} {me:FuncId} {d:Nat} {ty0:TypeId} {e:Eff} {o:Oper}
theorem elems_ok {sz:TypeId→Nat} {tk:Nat→Bool} {zero:List T} {rt0:List (Nat×Root)}:∀ {ps:List (Nat×T)} {vs:List (Nat×Value)} {xs:List (Nat×List T)} {ss:List CSet} {rt1 FS1 X D},HRel sz z rt1 gh w FS1 X→Pres D rt0 rt1→
  (evElems tk zero ps).run rt0=some (xs,ss)→setsApart ss=true→(∀ s,s∈ss→(s.d,s.c)∉D)→
  All2 (fun p v=>p.1=v.1∧okX ⟨sz,w.heap,Inow z w (FS1++X),rt1,gh⟩ p.2 v.2∧stX (Stm tick rt1) p.2) ps vs→
  ∃ FS' f,HRel sz z (setCells tick rt1 ss) gh w FS' (f++X)∧
   Keeps ⟨sz,w.heap,Inow z w (FS1++X),rt1,gh⟩ ⟨sz,w.heap,Inow z w (FS'++(f++X)),setCells tick rt1 ss,gh⟩ (Stm tick rt1)∧
   okParts sz w.heap (Inow z w (FS'++(f++X))) xs vs f
 | [],vs,xs,ss,rt1,FS1,X,D,r,p,h,_,_,hv=>by
  simp only[evElems,Rd.run,Option.some.injEq,Prod.mk.injEq] at h
  obtain⟨rfl,rfl⟩:=h
  simp only[All2] at hv;subst hv
  exact⟨FS1,[],r,r.keeps_refl _ fun b hb=>hb,rfl,rfl⟩
 | (k,t)::ps,vs,xs,ss,rt1,FS1,X,D,r,p,h,hap,hD,hv=>by
  simp only[evElems] at h
  obtain⟨⟨ts,s1⟩,h1,h2⟩:=run_bind h
  obtain⟨⟨rs,s2⟩,h3,h4⟩:=run_bind h2
  simp only[Rd.run,Option.some.injEq,Prod.mk.injEq] at h4
  obtain⟨rfl,rfl⟩:=h4
  obtain⟨⟨k',v⟩,vs',rfl,⟨rfl,q2,q3⟩,q4⟩:=hv
  dsimp only at q2 q3 h1 h3
  obtain⟨a1,a2,a3⟩:=setsApart_append hap
  obtain⟨p1,p2⟩:=part_cells (zero:=zero) q2 q3 (fun hd=>inline_dead (hd▸h1))
  obtain⟨FS2,f,L,g1,g2⟩:=inlineL_ok (tick:=tick) r p h1 a1 (fun s hs=>hD s (by simp[hs])) p1 p2
  have hv2:All2 (fun p v=>p.1=v.1∧okX ⟨sz,w.heap,Inow z w (FS2++(f++X)),setCells tick rt1 s1,gh⟩ p.2 v.2∧stX (Stm tick (setCells tick rt1 s1)) p.2) ps vs':=
   q4.imp fun p v _ hpv=>⟨hpv.1,L.keeps.x hpv.2.2 hpv.2.1,by
    have hm:=hpv.2.2
    have st0m:∀ t,st0 (Stm tick rt1) t→st0 (Stm tick (setCells tick rt1 s1)) t:=fun t ht=>by cases t<;>first | trivial | exact Stm_sets _ _ ht
    have st1m:∀ t,st1 (Stm tick rt1) t→st1 (Stm tick (setCells tick rt1 s1)) t:=fun t ht=>by
     cases t<;>first | trivial | exact Stm_sets _ _ ht | exact fun c hc=>st0m c (ht c hc)
    generalize p.2=t2 at hm
    cases t2<;>first | trivial | exact Stm_sets _ _ hm | exact fun c hc=>st0m c (hm c hc) | exact fun c hc=>st1m c (hm c hc)⟩
  obtain⟨FS3,f3,r3,k3,o3⟩:=elems_ok L.rel L.pres h3 a2 (fun s hs=>by
   have h1:=hD s (by simp[hs])
   have h2:=a3 s hs
   simp only[List.mem_append,not_or]
   exact⟨h2,h1⟩) hv2
  have hrt:setCells tick rt1 (s1++s2)=setCells tick (setCells tick rt1 s1) s2:=setCells_append
  obtain⟨r4,hI⟩:=r3.perm (X':=(f++f3)++X) fun x=>by simp only[List.count_append];omega
  refine⟨FS3,f++f3,by rw[hrt];exact r4,?_,(k,v),vs',f,f3,rfl,rfl,rfl,?_,?_⟩
  ·rw[hrt]
   exact (L.keeps.trans k3 fun a b h=>Stm_sets a b h).trans (r3.keeps_refl (Stm tick rt1) fun b hb=>(hI b).1 hb) fun _ _ h=>h
  ·exact okL_agree ⟨fun b hb=>⟨(hI b).1 (k3.old b hb).1,rfl⟩,fun b _=>rfl⟩ g1
  ·exact okParts_agree ⟨fun b hb=>⟨(hI b).1 hb,rfl⟩,fun b _=>rfl⟩ o3
theorem op_buildSlice {ty:TypeId} {nn:Nat} {parts:Array (Nat×Operand)} (ht:TiOk E) (h:Here E z n tick fr rt gh w FS a) (ho:o.op=.buildSlice ty nn parts) (hd:EffOk tick rt d e)
  (he:(evOp E call me (St.val fr) tick d ty0 (.buildSlice ty nn parts)).run rt=some e):
  Says E z tick rt gh w FS d e (execOp a.eval o):=by
 simp only[evOp] at he
 obtain⟨i,h1,he1⟩:=run_bind he
 obtain⟨el,h2,he2⟩:=run_bind he1
 obtain⟨ie,h3,he3⟩:=run_bind he2
 obtain⟨ps,h4,he4⟩:=run_bind he3
 obtain⟨⟨xs,ss⟩,h5,he5⟩:=run_bind he4
 clear he he1 he2 he3 he4
 split at he5
 ·rename_i hc
  simp only[Bool.and_eq_true,decide_eq_true_eq] at hc
  obtain⟨_,c2⟩:=hc
  split at he5
  ·rename_i es hes
   simp only[Rd.run,Option.some.injEq] at he5
   have hu:=(ht _ _ (run_of h1)).elem el (run_of h2)
   have te:=ht _ _ (run_of h3)
   obtain⟨inf,zv,i1,i2,i3,i4,i5,i6,i7,i8⟩:=te.info
   have hsz:szOf E el=ie.size:=by simp[szOf,run_of h3]
   have hsets:e.sets=ss:=by rw[←he5,with_sets.2.2,rooted_sets];rfl
   have hval:e.val=(rooted d tick (.own el es)).val:=by rw[←he5];rfl
   have hroot:e.root=(rooted d tick (.own el es)).root:=by rw[←he5];rfl
   obtain⟨FS',f,r,kp,hp⟩:=elems_ok (tick:=tick) (D:=[]) h.heap (Pres.refl rt) h5 (by rw[←hsets];exact hd.apart) (fun s _=>by simp) (buildParts_ok h.frame h4)
   have hz:okEs (szOf E) w.heap (Inow z w (FS'++(f++[]))) ie.size (List.replicate nn ie.zero) ((Array.range (nn*ie.size)).map (zv.cells[· % zv.cells.size]!)).toList []:=
    okEs_replicate (i7 _ _) i6 (by simpa using i5) _ (zeros_row i5)
   obtain⟨l',f',g1,g2,g3,g4,g5⟩:=fillElems_ok hes hz (by simp) hp
   rw[List.length_replicate] at g4
   have hrun:(execOp a.eval o).run E.P w=.ok (.value (.slice (some ⟨w.heap.size,0,none⟩) nn nn)) (w.alloc (.cells l' el (0,0))):=by
    have hsm:¬ (nn*ie.size > 2 ^ 24):=by simpa using c2
    by_cases h0:nn*ie.size=0
    ·have hfill:∀ arr0:Array Value,arr0.size=0→Instr.fill (fun i=>some (i*ie.size,ie.size)) arr0 (parts.toList.map fun p=>(p.1,a.eval p.2))=some l':=fun arr0 ha=>by
      rw[Array.eq_empty_of_size_eq_zero ha]
      rw[h0] at g1
      rwa[Array.eq_empty_of_size_eq_zero (show ((Array.range 0).map (zv.cells[· % zv.cells.size]!)).size=0 by simp)] at g1
     simp only[execOp,ho,Instr.buildSlice,Sem.run_bind,run_underlying hu,Result.andThen_ok,te.size,h0,if_true,Sem.run_pure,Array.toList_map]
     simp[hfill,newRow]
    ·simp only[execOp,ho,Instr.buildSlice,Sem.run_bind,run_underlying hu,Result.andThen_ok,te.size,hsm,if_false,h0,Array.toList_map]
     simp[zeroValue,run_typeInfo i1,i4,g1,newRow]
   obtain⟨r',hI⟩:=fewer_floats (X':=f'++[]) r (fun x=>by have:=g5 x;simp only[List.count_append,List.count_nil] at *;omega)
   obtain⟨gh',FS2,p1,p2,p3,p4⟩:=slot_slice (d:=d) (tick:=tick) (el:=el) (e':=el) (es:=es) (cap:=nn) (arr:=l') (fz:=(0,0)) (f:=f') r'
    (by rw[hsz];exact okEs_agree ⟨fun b hb=>⟨hI b hb,rfl⟩,fun b _=>rfl⟩ g2) (by omega) (by rw[hsz,g3,g4];exact Nat.le_refl _)
    (fun r0 h0=>newOk_lt (ss:=ss) (hd.new _ hroot) h0) fzOk_zero
   rw[g4] at p3
   unfold Says
   rw[hrun]
   show Done _ _ _ _ _ _ _ _ _ _ _
   rw[rtOf_eq,hsets,hval,hroot]
   exact⟨gh',FS2,p1,(kp.trans (r.keeps_refl (Stm tick rt) hI) fun _ _ h=>h).trans p2 fun a b h=>Stm_sets a b h,p3,p4⟩
  ·simp[Rd.run] at he5
 ·simp[Rd.run] at he5
end lit
theorem okL_split {sz h I}:∀ {c1 c2 us f},okL sz h I (c1++c2) us f→∃ u1 u2 f1 f2,us=u1++u2∧f=f1++f2∧u1.length=c1.length∧okL sz h I c1 u1 f1∧okL sz h I c2 u2 f2
 | [],c2,us,f,hk=>⟨[],us,[],f,rfl,rfl,rfl,by simp[okL],hk⟩
 | c::c1,c2,us,f,hk=>by
  simp only[List.cons_append,okL] at hk
  obtain⟨u,us',f1,f2,rfl,rfl,h1,h2⟩:=hk
  obtain⟨u1,u2,f3,f4,rfl,rfl,hl,h3,h4⟩:=okL_split h2
  exact⟨u::u1,u2,f1++f3,f4,rfl,by simp,by simp[hl],by simp only[okL];exact⟨u,u1,f1,f3,rfl,rfl,h1,h3⟩,h4⟩
theorem okL_app {sz h I}:∀ {c1 c2 u1 u2 f1 f2},okL sz h I c1 u1 f1→okL sz h I c2 u2 f2→okL sz h I (c1++c2) (u1++u2) (f1++f2)
 | [],c2,u1,u2,f1,f2,h1,h2=>by simp only[okL] at h1;obtain⟨rfl,rfl⟩:=h1;simpa using h2
 | c::c1,c2,u1,u2,f1,f2,h1,h2=>by
  simp only[okL] at h1
  obtain⟨u,us',f3,f4,rfl,rfl,h3,h4⟩:=h1
  simp only[List.cons_append,okL]
  exact⟨u,us'++u2,f3,f4++f2,rfl,by simp,h3,okL_app h4 h2⟩
theorem okL_splice {sz h I} {cs us f xs vs fx} {off:Nat} (hk:okL sz h I cs us f) (hx:okL sz h I xs vs fx) (hle:off+xs.length≤cs.length):
  ∃ f1,(∀ b,f1.count b≤f.count b+fx.count b)∧okL sz h I (splice cs off xs) (us.take off++vs++us.drop (off+vs.length)) f1:=by
 have hl:=okL_length hk
 have hxl:=okL_length hx
 have e1:cs=cs.take off++((cs.drop off).take xs.length++cs.drop (off+xs.length)):=by
  rw[←List.drop_drop,List.take_append_drop,List.take_append_drop]
 rw[e1] at hk
 obtain⟨u1,u23,f1,f23,rfl,rfl,l1,h1,h23⟩:=okL_split hk
 obtain⟨u2,u3,f2,f3,rfl,rfl,l2,h2,h3⟩:=okL_split h23
 rw[List.length_take] at l1
 rw[List.length_take,List.length_drop] at l2
 have e2:(u1++(u2++u3)).take off=u1:=by rw[List.take_append_of_le_length (by omega),List.take_of_length_le (by omega)]
 have e3:(u1++(u2++u3)).drop (off+vs.length)=u3:=by
  rw[←List.append_assoc,List.drop_append_of_le_length (by rw[List.length_append];omega),List.drop_of_length_le (by rw[List.length_append];omega),List.nil_append]
 refine⟨f1++fx++f3,fun b=>by simp only[List.count_append];omega,?_⟩
 rw[e2,e3]
 exact okL_app (okL_app h1 hx) h3
theorem skL_app {sz h' h}:∀ {c1 c2 d1 d2:List T} {u1 u2 v1 v2:List Value},skL sz h' h c1 d1 u1 v1→c1.length=d1.length→c1.length=u1.length→c1.length=v1.length→skL sz h' h c2 d2 u2 v2→skL sz h' h (c1++c2) (d1++d2) (u1++u2) (v1++v2)
 | [],c2,d1,d2,u1,u2,v1,v2,_,h2,h3,h4,h5=>by
  have:d1=[]:=List.length_eq_zero_iff.1 h2.symm
  have:u1=[]:=List.length_eq_zero_iff.1 h3.symm
  have:v1=[]:=List.length_eq_zero_iff.1 h4.symm
  subst_vars
  simpa using h5
 | c::c1,c2,d1,d2,u1,u2,v1,v2,h1,h2,h3,h4,h5=>by
  simp only[skL] at h1
  obtain⟨d,dt,u,ut,v,vt,rfl,rfl,rfl,g1,g2,g3⟩:=h1
  simp only[List.length_cons,Nat.add_right_cancel_iff] at h2 h3 h4
  simp only[List.cons_append,skL]
  exact⟨d,_,u,_,v,_,rfl,rfl,rfl,g1,g2,skL_app g3 h2 h3 h4 h5⟩
theorem skL_none {sz h' h}:∀ {c1 d1:List T} {u1 v1:List Value},anyOwn c1=false→c1.length=d1.length→c1.length=u1.length→c1.length=v1.length→skL sz h' h c1 d1 u1 v1
 | [],d1,u1,v1,_,_,_,_=>by simp[skL]
 | c::c1,[],u1,v1,_,h2,_,_=>by simp at h2
 | c::c1,d::d1,[],v1,_,_,h3,_=>by simp at h3
 | c::c1,d::d1,u::u1,[],_,_,_,h4=>by simp at h4
 | c::c1,d::d1,u::u1,v::v1,h1,h2,h3,h4=>by
  simp only[anyOwn,Bool.or_eq_false_iff] at h1
  simp only[List.length_cons,Nat.add_right_cancel_iff] at h2 h3 h4
  simp only[skL]
  exact⟨d,d1,u,u1,v,v1,rfl,rfl,rfl,fun h=>by rw[h1.1] at h;simp at h,skV_of_not h1.1,skL_none h1.2 h2 h3 h4⟩
theorem skL_splice {sz h h' I} {cs us f xs vs} {off:Nat} (hk:okL sz h I cs us f) (ha:∀ b,b∈f→h'[b]?=h[b]?) (hx:anyOwn xs=false) (hv:vs.length=xs.length) (hle:off+xs.length≤cs.length):
  skL sz h' h (splice cs off xs) cs (us.take off++vs++us.drop (off+vs.length)) us:=by
 have hl:=okL_length hk
 have e1:cs=cs.take off++((cs.drop off).take xs.length++cs.drop (off+xs.length)):=by
  rw[←List.drop_drop,List.take_append_drop,List.take_append_drop]
 have hk2:=hk
 rw[e1] at hk2
 obtain⟨u1,u23,f1,f23,rfl,rfl,l1,h1,h23⟩:=okL_split hk2
 obtain⟨u2,u3,f2,f3,rfl,rfl,l2,h2,h3⟩:=okL_split h23
 have hl1:u1.length=off:=by rw[List.length_take] at l1;omega
 have hl2:u2.length=xs.length:=by rw[List.length_take,List.length_drop] at l2;omega
 have e2:(u1++(u2++u3)).take off=u1:=by rw[List.take_append_of_le_length (by omega),List.take_of_length_le (by omega)]
 have e3:(u1++(u2++u3)).drop (off+vs.length)=u3:=by
  rw[←List.append_assoc,List.drop_append_of_le_length (by rw[List.length_append];omega),List.drop_of_length_le (by rw[List.length_append];omega),List.nil_append]
 rw[e2,e3]
 have key:=skL_app (h':=h') (h:=h) (sz:=sz) (skL_refl (fun b hb=>ha b (by simp[hb])) h1) rfl l1.symm l1.symm
  (skL_app (skL_none (c1:=xs) (d1:=(cs.drop off).take xs.length) (u1:=vs) (v1:=u2) hx (by rw[List.length_take,List.length_drop];omega) hv.symm hl2.symm) (by rw[List.length_take,List.length_drop];omega) hv.symm hl2.symm
   (skL_refl (fun b hb=>ha b (by simp[hb])) h3))
 have e4:splice cs off xs=cs.take off++(xs++cs.drop (off+xs.length)):=by unfold splice;rw[List.append_assoc]
 rw[e4,List.append_assoc]
 have e5:skL sz h' h (cs.take off++(xs++cs.drop (off+xs.length))) cs (u1++(vs++u3)) (u1++(u2++u3))=skL sz h' h (cs.take off++(xs++cs.drop (off+xs.length))) (cs.take off++((cs.drop off).take xs.length++cs.drop (off+xs.length))) (u1++(vs++u3)) (u1++(u2++u3)):=by
  rw[←e1]
 rw[e5]
 exact key
theorem setRow_ok {sz z} {tick d b:Nat} {pre post:List Value} {el:TypeId} {fz:Nat×Nat}:∀ {xs:List T} {vs:List Value} {f:List Nat} {rt gh w FS X off ro},HRel sz z rt gh w FS (f++X)→okL sz w.heap (Inow z w (FS++(f++X))) xs vs f→
  lk rt d=some ro→(gh d).blk=some ⟨b,pre,post,el,fz⟩→off+xs.length≤ro.cells.length→(anyOwn xs=true→ro.ver≤tick)→
  ∃ gh' FS',HRel sz z (setCells tick rt (setRow d off xs)) gh' (stores w b (pre.length+off) vs) FS' X∧
   Keeps ⟨sz,w.heap,Inow z w (FS++(f++X)),rt,gh⟩ ⟨sz,(stores w b (pre.length+off) vs).heap,Inow z (stores w b (pre.length+off) vs) (FS'++X),setCells tick rt (setRow d off xs),gh'⟩ (Stm tick rt)
 | [],vs,f,rt,gh,w,FS,X,off,ro,r,hk,hl,hb,hle,ha=>by
  simp only[okL] at hk
  obtain⟨rfl,rfl⟩:=hk
  exact⟨gh,FS,r,r.keeps_refl _ fun b hb=>hb⟩
 | x::xs,vs,f,rt,gh,w,FS,X,off,ro,r,hk,hl,hb,hle,ha=>by
  simp only[okL] at hk
  obtain⟨v,vs',f1,f2,rfl,rfl,h1,h2⟩:=hk
  simp only[List.length_cons] at hle
  have hr:HRel sz z rt gh w FS (f1++(f2++X))∧∀ b,Inow z w (FS++((f1++f2)++X)) b↔Inow z w (FS++(f1++(f2++X))) b:=r.perm fun y=>by simp only[List.count_append];omega
  obtain⟨r1,hI⟩:=hr
  have hc:ro.cells[off]?=some ro.cells[off]:=by
   have:off<ro.cells.length:=by omega
   simp[this]
  obtain⟨FS1,arr,q1,q2,q3,q4,q5⟩:=r1.set_top (tick:=tick) (hv:=if isOwn x then nxt tick ro else ro.hver) (t':=x) (v:=v) hl hb hc (okV_agree ⟨fun b hb=>⟨(hI b).1 hb,rfl⟩,fun b _=>rfl⟩ h1) (by
   cases hx:isOwn x with
   | true=>exact .inr rfl
   | false=>exact .inl ⟨rfl,rfl⟩)
  have hrt:setCell tick rt ⟨d,off,x,isOwn x⟩=up rt d { ro with cells:=ro.cells.set off x,hver:=if isOwn x then nxt tick ro else ro.hver }:=by
   unfold setCell;simp only[hl]
  rw[←hrt] at q4 q5
  have hbF:b∈FS:=by
   obtain⟨f0,g1,g2⟩:=okRts_get r.roots hl
   unfold okRoot at g1
   rw[hb] at g1
   obtain⟨_,fs',_,rfl,_⟩:=g1
   exact g2 b (by simp)
  have hbf:∀ y,y∈f2→y≠b:=fun y hy he=>by
   subst he
   have:=r.uniq y
   have h3:=List.count_pos_iff.2 hy
   have h4:=List.count_pos_iff.2 hbF
   simp only[List.count_append] at this
   omega
  have hk2:okL sz (w.setCell ⟨b,pre.length+off,none⟩ v).heap (Inow z (w.setCell ⟨b,pre.length+off,none⟩ v) (FS1++(f2++X))) xs vs' f2:=
   okL_agree ⟨fun y hy=>q5.old y ((hI y).1 hy),fun y hy=>heap_setCell_ne (hbf y hy)⟩ h2
  have hl2:lk (setCell tick rt ⟨d,off,x,isOwn x⟩) d=some { ro with cells:=ro.cells.set off x,hver:=if isOwn x then nxt tick ro else ro.hver }:=by rw[hrt,lk_up_self]
  obtain⟨gh',FS',m1,m2⟩:=setRow_ok (b:=b) (pre:=pre) (post:=post) (el:=el) (fz:=fz) (off:=off+1) q4 hk2 hl2 (by simp[gset]) (by show off+1+xs.length≤(ro.cells.set off x).length;rw[List.length_set];omega) (fun h=>ha (by simp[anyOwn,h]))
  refine⟨gh',FS',m1,?_⟩
  have k0:Keeps ⟨sz,w.heap,Inow z w (FS++((f1++f2)++X)),rt,gh⟩ ⟨sz,w.heap,Inow z w (FS++(f1++(f2++X))),rt,gh⟩ (Stm tick rt):=r.keeps_refl _ fun b hb=>(hI b).1 hb
  exact (k0.trans q5 fun _ _ h=>h).trans m2 fun a b h=>Stm_set a b h
theorem rdCells_len {rt:List (Nat×Root)} {d ver off n:Nat} {cs:List T} (h:(rdCells d ver off n).run rt=some cs) (hn:0<n):∃ r,lk rt d=some r∧r.ver=ver∧off+n≤r.cells.length:=by
 obtain⟨r,h1,h2,h3,_⟩:=rdCells_run h hn
 exact⟨r,h1,h2,h3⟩
theorem setsOk_mem {tick rt}:∀ {ss:List CSet},setsOk tick rt ss=true→∀ s,s∈ss→s.hdr=true→∃ r,lk rt s.d=some r∧r.ver≤tick
 | [],_,s,hs,_=>by simp at hs
 | s0::ss,h,s,hs,hh=>by
  simp only[setsOk,Bool.and_eq_true,Bool.or_eq_true,Bool.not_eq_true'] at h
  obtain⟨h1,h2⟩:=h
  rcases List.mem_cons.1 hs with rfl | hs
  ·rcases h1 with h1 | h1
   ·rw[hh] at h1;simp at h1
   ·split at h1
    ·rename_i r hr
     exact⟨r,hr,by simpa using h1⟩
    ·simp at h1
  ·exact setsOk_mem h2 s hs hh
theorem setsOk_append {tick rt}:∀ {a b:List CSet},setsOk tick rt (a++b)=true→setsOk tick rt b=true
 | [],b,h=>h
 | s::a,b,h=>by
  simp only[List.cons_append,setsOk,Bool.and_eq_true] at h
  exact setsOk_append h.2
theorem setRow_any {d:Nat}:∀ {xs:List T} {off:Nat},anyOwn xs=true→∃ s,s∈setRow d off xs∧s.hdr=true∧s.d=d
 | [],off,h=>by simp[anyOwn] at h
 | x::xs,off,h=>by
  simp only[anyOwn,Bool.or_eq_true] at h
  rcases h with h | h
  ·exact⟨⟨d,off,x,isOwn x⟩,by simp[setRow],h,rfl⟩
  ·obtain⟨s,h1,h2,h3⟩:=setRow_any (d:=d) (off:=off+1) h
   exact⟨s,by simp[setRow,h1],h2,h3⟩
theorem setCell_len {tick rt s d r} (h:lk (setCell tick rt s) d=some r):∃ r0,lk rt d=some r0∧r.cells.length=r0.cells.length:=by
 unfold setCell at h
 cases hs:lk rt s.d with
 | none=>rw[hs] at h;exact⟨r,h,rfl⟩
 | some r1=>
  rw[hs] at h
  by_cases hd:d=s.d
  ·subst hd
   rw[lk_up_self] at h
   simp only[Option.some.injEq] at h;subst h
   exact⟨r1,hs,by simp⟩
  ·rw[lk_up_ne _ _ _ _ hd] at h
   exact⟨r,h,rfl⟩
theorem setCells_len {tick}:∀ {ss rt d r},lk (setCells tick rt ss) d=some r→∃ r0,lk rt d=some r0∧r.cells.length=r0.cells.length
 | [],rt,d,r,h=>⟨r,h,rfl⟩
 | s::ss,rt,d,r,h=>by
  simp only[setCells] at h
  obtain⟨r0,h1,h2⟩:=setCells_len h
  obtain⟨r1,h3,h4⟩:=setCell_len h1
  exact⟨r1,h3,h2.trans h4⟩
theorem graft_descend {g:List T→Option (List T)}:∀ {path:List (Nat×Nat)} {cs cs':List T},graft g cs path=some cs'→∃ c0 c1,descend cs path=some c0∧g c0=some c1
 | [],cs,cs',h=>⟨cs,cs',rfl,h⟩
 | (c,i)::rest,cs,cs',h=>by
  simp only[graft] at h
  split at h
  ·rename_i e es h1
   split at h
   ·rename_i cs1 h2
    split at h
    ·rename_i cs2 h3
     obtain⟨c0,c1,g1,g2⟩:=graft_descend h3
     exact⟨c0,c1,by simp only[descend,h1,h2];exact g1,g2⟩
    ·simp at h
   ·simp at h
  ·simp at h
theorem row_splice {l vs:List Value} {o off len m:Nat} (_hm:o+m≤l.length) (hv:vs.length=len) (hle:off+len≤m):
  l.take (o+off)++vs++l.drop (o+off+len)=l.take o++(((l.drop o).take m).take off++vs++((l.drop o).take m).drop (off+len))++l.drop (o+m):=by
 have e1:l.take (o+off)=l.take o++(l.drop o).take off:=by rw[List.take_add]
 have e2:((l.drop o).take m).take off=(l.drop o).take off:=by rw[List.take_take,Nat.min_eq_left (by omega)]
 have e3:((l.drop o).take m).drop (off+len)++l.drop (o+m)=l.drop (o+off+len):=by
  rw[List.drop_take,List.drop_drop]
  have:l.drop (o+m)=(l.drop (o+(off+len))).drop (m - (off+len)):=by rw[List.drop_drop];congr 1;omega
  rw[this,List.take_append_drop]
  congr 1;omega
 rw[e1,e2]
 simp only[List.append_assoc]
 rw[e3]
section st
variable {E:Env} {z:Zn} {n tick:Nat} {fr:List (Nat×T)} {rt:List (Nat×Root)} {gh:Nat→G} {w:World} {FS:List Nat} {a:Act}
variable {call:FuncId→List Arg→Option Res} {me:FuncId} {d:Nat} {ty0:TypeId} {e:Eff} {o:Oper}
theorem run_storeAt {ty:TypeId} {i:TInfo} {v:Value} {b o':Nat} {arr:Array Value} {el:TypeId} {fz:Nat×Nat} (ti:TOk E ty i) (hs:v.cells.size=i.size) (hb:w.heap[b]?=some (.cells arr el fz))
  (hfit:o'+i.size≤arr.size) (hfz:fzFree fz arr.size) (hone:∀ u,u∈v.cells.toList→oneVal u=true):
  (Instr.storeAt ty (.pointer (some ⟨b,o',none⟩)) v).run E.P w=.ok () (stores w b o' v.cells.toList):=by
 have h1:=run_storeCells_ok (P:=E.P) (vs:=v.cells.toList) (i:=0) (o:=o') hb (by rw[Array.length_toList];omega) hfz hone
 simp only[Instr.storeAt,Instr.sureAddr,storeVar,Sem.run_bind,Sem.run_pure,Result.andThen_ok,ti.size,hs]
 simpa using h1
def DoneP (Q:(Nat→G)→Prop) (E:Env) (z:Zn) (tick:Nat) (rt rt':List (Nat×Root)) (gh:Nat→G) (w:World) (FS:List Nat) (t:T) (u:Value) (w':World):Prop:=
 ∃ gh' FS',Q gh'∧HRel (szOf E) z rt' gh' w' FS' []∧
  Keeps ⟨szOf E,w.heap,Inow z w (FS++[]),rt,gh⟩ ⟨szOf E,w'.heap,Inow z w' (FS'++[]),rt',gh'⟩ (Stm tick rt)∧
  okX ⟨szOf E,w'.heap,Inow z w' (FS'++[]),rt',gh'⟩ t u∧stX (Stm tick rt') t
def Stands (fr:List (Nat×T)) (p:Operand) (gh gh':Nat→G):Prop:=∀ d ver q rest off,St.val fr p=some (.ptr d ver (q::rest) off)→gh' d=gh d
theorem op_storeP {ty:TypeId} {p x:Operand} (ht:TiOk E) (h:Here E z n tick fr rt gh w FS a) (ho:o.op=.store ty p x) (hd:EffOk tick rt d e)
  (he:(evOp E call me (St.val fr) tick d ty0 (.store ty p x)).run rt=some e):
  ∃ w',(execOp a.eval o).run E.P w=.ok .skip w'∧DoneP (Stands fr p gh) E z tick rt (rtOf tick rt d e) gh w FS e.val undef w':=by
 simp only[evOp] at he
 obtain⟨tp,h1,he1⟩:=run_bind he
 obtain⟨t,h2,he2⟩:=run_bind he1
 obtain⟨i,h3,he3⟩:=run_bind he2
 obtain⟨⟨xs,ss⟩,h4,he4⟩:=run_bind he3
 clear he he1 he2 he3
 obtain⟨kp1,kp2⟩:=h.frame.val (run_of h1)
 obtain⟨kx1,kx2⟩:=h.frame.val (run_of h2)
 have ti:=ht _ _ (run_of h3)
 have hp0:=run_of h1
 clear h1
 split at he4
 ·rename_i hlen
  dsimp only at hlen
  split at he4
  ·rename_i d' ver path off
   obtain⟨s,h5,he5⟩:=run_bind he4
   simp only[Rd.run,Option.some.injEq] at he5
   subst he5
   obtain⟨a1,a2,a3⟩:=setsApart_append hd.apart
   obtain⟨FS1,f,r1,k1,o1,one1⟩:=inline_partR h kx1 kx2 h4 a1
   have hp:Pres (places ss) rt (setCells tick rt ss):=by
    obtain⟨p1,p2⟩:=part_cells (zero:=i.zero) kx1 kx2 (fun hh=>inlineR_dead (hh▸h4))
    obtain⟨FS',f',L,_,_⟩:=inlineR_ok (tick:=tick) h.heap h4 a1 p1 p2
    simpa using L.pres
   have hvl:(a.eval x).cells.size=i.size:=by have:=okL_length o1;rw[Array.length_toList] at this;omega
   obtain⟨⟨ad,hu⟩,kp⟩:=(k1.x kp2 kp1)
   have hsets:setsOk tick rt s=true:=setsOk_append hd.sets
   have fin:∀ {gh' FS' w'},Stands fr p gh gh'→(Instr.storeAt ty (a.eval p) (a.eval x)).run E.P w=.ok () w'→HRel (szOf E) z (setCells tick (setCells tick rt ss) s) gh' w' FS' []→
     Keeps ⟨szOf E,w.heap,Inow z w (FS1++(f++[])),setCells tick rt ss,gh⟩ ⟨szOf E,w'.heap,Inow z w' (FS'++[]),setCells tick (setCells tick rt ss) s,gh'⟩ (Stm tick (setCells tick rt ss))→
     ∃ w',(execOp a.eval o).run E.P w=.ok .skip w'∧DoneP (Stands fr p gh) E z tick rt (rtOf tick rt d { val:=.v undef,sets:=ss++s }) gh w FS (.v undef) undef w':=by
    intro gh' FS' w' hst hrun hr hk
    have hrun2:(execOp a.eval o).run E.P w=.ok .skip w':=by
     simp only[execOp,ho,Sem.run_bind,hrun,Result.andThen_ok]
     rfl
    refine⟨w',hrun2,?_⟩
    rw[rtOf_eq]
    refine⟨gh',FS',hst,?_,?_,okX_v.2 rfl,trivial⟩
    ·show HRel _ _ (setCells tick rt (ss++s)) _ _ _ _
     rw[setCells_append];exact hr
    ·show Keeps _ ⟨_,_,_,setCells tick rt (ss++s),_⟩ _
     rw[setCells_append];exact k1.trans hk fun a b h=>Stm_sets a b h
   unfold wrRow at h5
   split at h5
   ·obtain⟨cs0,h6,h7⟩:=run_bind h5
    simp only[Rd.run,Option.some.injEq] at h7;subst h7
    have h6:(rdCells d' ver off xs.length).run rt=some cs0:=h6
    by_cases hz:xs.length=0
    ·have hx0:xs=[]:=List.length_eq_zero_iff.1 hz
     subst hx0
     have hv0:(a.eval x).cells.toList=[]:=by simp only[okL] at o1;exact o1.1
     obtain⟨r2,hI⟩:=drop_floats r1
     refine fin (gh':=gh) (FS':=FS1) (w':=w) (fun _ _ _ _ _ _=>rfl) ?_ r2 (r1.keeps_refl _ hI)
     rw[hu]
     simp only[Instr.storeAt,Instr.sureAddr,storeVar,Sem.run_bind,Sem.run_pure,Result.andThen_ok,ti.size,hvl,hv0]
     simp[storeCells]
    ·obtain⟨ro,g1,g2,g3⟩:=rdCells_len h6 (by omega)
     obtain⟨ro1,g4,g5,g6,g7,g8⟩:=hp d' ro g1
     obtain⟨⟨b,pre,post,el,fz⟩,hb,hub⟩:=kp ro1 g4 (by rw[g5];exact g2)
     have hlen1:ro1.cells.length=ro.cells.length:=by
      obtain⟨r0,y1,y2⟩:=setCells_len g4
      rw[g1] at y1
      simp only[Option.some.injEq] at y1
      rw[y2,y1]
     obtain⟨gh',FS',m1,m2⟩:=setRow_ok (off:=off) r1 o1 g4 hb (by omega) (fun ha=>by
      obtain⟨s,q1,q2,q3⟩:=setRow_any (d:=d') (off:=off) ha
      obtain⟨r0,q4,q5⟩:=setsOk_mem hsets s q1 q2
      rw[q3,g1] at q4
      simp only[Option.some.injEq] at q4
      rw[g5,q4];exact q5)
     obtain⟨f0,w1,w2⟩:=okRts_get r1.roots g4
     unfold okRoot at w1
     rw[hb] at w1
     obtain⟨_,fs',arr,_,v1,v2,v3,v4⟩:=w1
     simp only at v1 v2 v3 hub
     have hasz:arr.size=pre.length+ro1.cells.length+post.length:=by have h8:=congrArg List.length v3;have h9:=okL_length v4;simp at h8;omega
     have hlx:xs.length=i.size:=hlen
     refine fin (gh':=gh') (FS':=FS') (fun d1 v1 q1 r1 o1 hx=>by rw[hp0] at hx;simp at hx) ?_ m1 m2
     rw[hub]
     exact run_storeAt ti hvl v1 (by omega) v2 one1
   ·rename_i c0 i0 rest
    split at h5
    ·obtain⟨ro,t0,g1,g2,g3,g4⟩:=run_cell h5
     split at g4
     ·rename_i t' hgr
      simp only[Rd.run,Option.some.injEq] at g4;subst g4
      obtain⟨cs,cs1,d1,d2⟩:=graft_descend hgr
      split at d2
      ·rename_i hle
       simp only[Option.some.injEq] at d2;subst d2
       have hle:off+xs.length≤cs.length:=hle
       have hlx:xs.length=i.size:=hlen
       obtain⟨ro1,p4,p5,p6,p7,p8⟩:=hp d' ro g1
       have hc1:ro1.cells[c0]?=some t0:=by
        rw[p8 c0 (a3 ⟨d',c0,t',anyOwn xs⟩ (by simp))];exact g3
       obtain⟨u0,b,o',arr,el,fz,fcs,m1,m2,m3,m4,m5,m6,m6',m7,m8,m9⟩:=r1.locate p4 hc1 d1
       have hub:=kp ro1 p4 (by rw[p6];exact g2) cs _ b o' (m9 _)
       have hvl2:(a.eval x).cells.toList.length=xs.length:=okL_length o1
       obtain⟨arr',y1,y2,y3⟩:=stores_eq (vs:=(a.eval x).cells.toList) (o:=o'+off) m3 (by omega)
       obtain⟨s1,s2,s3,s4⟩:=stores_same (b:=b) (vs:=(a.eval x).cells.toList) (w:=w) (o:=o'+off)
       have hal:arr.toList.length=arr.size:=Array.length_toList
       have hu2:∀ y,y∈f→y≠b:=fun y hy he=>by
        subst he
        have:=r1.uniq y
        have h3:=List.count_pos_iff.2 hy
        have h4:=List.count_pos_iff.2 m6
        simp only[List.count_append] at this
        omega
       have hnb:∀ y,Inow z w (FS1++(f++[])) y→y≠b:=fun y hy he=>by subst he;exact (r1.imm hy).2 (by simp[m6])
       have hl0:((arr.toList.drop o').take cs.length).length=cs.length:=okL_length m7
       have hany:anyOwn xs=true→ro1.ver≤tick:=fun ha=>by
        obtain⟨r0,q4,q5⟩:=setsOk_mem hsets ⟨d',c0,t',anyOwn xs⟩ (by simp) ha
        rw[g1] at q4
        simp only[Option.some.injEq] at q4
        rw[p5,q4];exact q5
       obtain⟨FS',X',hX,w1,w2⟩:=HRel.nested (tick:=tick) (hv:=if anyOwn xs then nxt tick ro1 else ro1.hver) (Ex:=fun X'=>X'=[]) (cs1:=splice cs off xs) (vs1:=((arr.toList.drop o').take cs.length).take off++(a.eval x).cells.toList++((arr.toList.drop o').take cs.length).drop (off+(a.eval x).cells.toList.length)) (arr':=arr')
        (w':=stores w b (o'+off) (a.eval x).cells.toList) r1 p4 hc1 m1 d1 m2 m3 (by rw[if_pos hle]) (by unfold splice;simp only[List.length_append,List.length_take,List.length_drop];omega) hgr s1 s2 s3 s4 (fun y hy=>stores_ne hy) y1 y2
        (by rw[y3,hvl2];exact row_splice (by omega) hvl2 hle) (by simp only[List.length_append,List.length_take,List.length_drop];omega)
        (fun fc hfc hsub hbF hbf=>by
         obtain⟨f1,c1,c2⟩:=okL_splice hfc o1 hle
         refine⟨f1,[],rfl,fun y=>by have:=c1 y;simp only[List.count_append,List.count_nil];omega,okL_agree ⟨fun y hy=>⟨hy,stores_ne (hnb y hy)⟩,fun y hy=>stores_ne fun he=>?_⟩ c2⟩
         subst he
         have h1:=c1 y
         have h2:=List.count_pos_iff.2 hy
         have h3:fc.count y=0:=List.count_eq_zero.2 hbf
         have h4:f.count y=0:=List.count_eq_zero.2 fun hm=>hu2 y hm rfl
         omega)
        (by
         cases hxx:anyOwn xs with
         | true=>exact .inr rfl
         | false=>exact .inl ⟨rfl,skL_splice m7 (fun y hy=>stores_ne fun he=>by subst he;exact m6' hy) hxx hvl2 hle⟩)
       subst hX
       have hrt:setCells tick (setCells tick rt ss) [⟨d',c0,t',anyOwn xs⟩]=up (setCells tick rt ss) d' { ro1 with cells:=ro1.cells.set c0 t',hver:=if anyOwn xs then nxt tick ro1 else ro1.hver }:=by
        simp only[setCells,setCell,p4]
       refine fin (gh':=gh) (FS':=FS') (w':=stores w b (o'+off) (a.eval x).cells.toList) (fun _ _ _ _ _ _=>rfl) ?_ (by rw[hrt];exact w1) (by rw[hrt];exact w2)
       rw[hub]
       exact run_storeAt ti hvl m3 (by omega) m4 one1
      ·simp at d2
     ·simp[Rd.run] at g4
    ·simp[Rd.run] at h5
  ·simp[Rd.run] at he4
 ·simp[Rd.run] at he4
theorem op_store {ty:TypeId} {p x:Operand} (ht:TiOk E) (h:Here E z n tick fr rt gh w FS a) (ho:o.op=.store ty p x) (hd:EffOk tick rt d e)
  (he:(evOp E call me (St.val fr) tick d ty0 (.store ty p x)).run rt=some e):
  Says E z tick rt gh w FS d e (execOp a.eval o):=by
 obtain⟨w',h1,gh',FS',_,h2⟩:=op_storeP ht h ho hd he
 unfold Says
 rw[h1]
 exact⟨gh',FS',h2⟩
end st
end Go.TM
