/- Of the tree machine: its evaluator and why it is sound. -/
import Derived.Test.YtldklhcklkaplaaGreatDoorTTm2
import Derived.Orders
import Derived.LoopN
set_option linter.unusedSimpArgs false
set_option linter.unusedVariables false
namespace Go.TM
open Go
theorem HRel.back3 {sz z rt gh w FS X f d} {g1:G} {r1:Root} {x0:Cx} {S:Nat→Nat→Prop} (r:HRel sz z rt gh w FS (f++X)) (hr:okRoot sz w.heap (Inow z w (FS++(f++X))) g1 r1 f)
  (kp:Keeps x0 ⟨sz,w.heap,Inow z w (FS++(f++X)),rt,gh⟩ S)
  (hb:∃ ro,lk x0.rt d=some ro∧ro.ver=r1.ver∧ro.hver=r1.hver∧g1.blk=(x0.gh d).blk∧skL x0.sz w.heap x0.h r1.cells ro.cells g1.vals (x0.gh d).vals):
  ∃ FS',HRel sz z (up rt d r1) (gset gh d g1) w FS' X∧(∀ b,Inow z w (FS++(f++X)) b→Inow z w (FS'++X) b)∧Keeps x0 ⟨sz,w.heap,Inow z w (FS'++X),up rt d r1,gset gh d g1⟩ S:=by
 obtain⟨fo,rr,q1,_,_,_,q4⟩:=okRts_up (d:=d) r.srt r.roots
 obtain⟨FS',p1,p2⟩:=q4 w.heap _ g1 r1 f ⟨fun b hb=>⟨hb,rfl⟩,fun b _=>rfl⟩ hr
 have hm:∀ b,b∈FS'++X→b∈FS++(f++X):=fun b hb=>by
  have h0:=List.count_pos_iff.2 hb
  have h1:=q1 b
  have h2:=p2 b
  rw[←List.count_pos_iff]
  simp only[List.count_append] at *
  omega
 have hI:∀ b,Inow z w (FS++(f++X)) b→Inow z w (FS'++X) b:=fun b hb=>r.imm_grow (Nat.le_refl _) (fun b hb=>.inl (hm b hb)) hb
 obtain⟨ro,b1,b2,b3,b4,b5⟩:=hb
 refine⟨FS',⟨up_srt r.srt,okRts_agree ⟨fun b hb=>⟨hI b hb,rfl⟩,fun b _=>rfl⟩ p1,fun x=>?_,fun b hb=>r.lt b (hm b hb),fun b hb=>r.zone b (hm b hb),r.fr⟩,hI,kp.sz,fun b hb=>⟨hI b (kp.old b hb).1,(kp.old b hb).2⟩,?_,?_⟩
 ·have h1:=q1 x
  have h2:=p2 x
  have h3:=r.uniq x
  simp only[List.count_append] at *
  omega
 ·intro d' s r' hs h1 h2
  by_cases he:d'=d
  ·subst he
   simp only[lk_up_self,Option.some.injEq] at h1
   subst h1;subst h2
   exact⟨ro,b1,b3,by simpa[gset] using b4,by simpa[gset] using b5⟩
  ·simp only[lk_up_ne _ _ _ _ he] at h1
   obtain⟨r0,g1',g2,g3,g4⟩:=kp.hdr d' s r' hs h1 h2
   exact⟨r0,g1',g2,by simpa[gset,he] using g3,by simpa[gset,he] using g4⟩
 ·intro d' s r' hs h1 h2
  by_cases he:d'=d
  ·subst he
   simp only[lk_up_self,Option.some.injEq] at h1
   subst h1;subst h2
   exact⟨ro,b1,b2,by simpa[gset] using b4⟩
  ·simp only[lk_up_ne _ _ _ _ he] at h1
   obtain⟨r0,g1',g2,g3⟩:=kp.top d' s r' hs h1 h2
   exact⟨r0,g1',g2,by simpa[gset,he] using g3⟩
theorem up_up1 {α:Type}:∀ {l:List (Nat×α)} {d:Nat} {x y:α},up (up l d x) d y=up l d y
 | [],d,x,y=>by simp[up]
 | (k,z)::l,d,x,y=>by
  simp only[up]
  by_cases h:k=d
  ·simp[h,up]
  ·by_cases h2:d<k
   ·simp[h,h2,up]
   ·simp only[if_neg h,if_neg h2,up,up_up1]
theorem rowN_eq {tick d:Nat}:∀ {cs:List T} {k:Nat} {rt:List (Nat×Root)} {ro:Root},lk rt d=some ro→cs≠[]→k+cs.length=ro.cells.length→
  setCells tick rt (rowN d k cs)=up rt d { ro with cells:=ro.cells.take k++cs }
 | [],k,rt,ro,_,hn,_=>absurd rfl hn
 | c::cs,k,rt,ro,hl,_,hlen=>by
  simp only[List.length_cons] at hlen
  have h1:setCell tick rt ⟨d,k,c,false⟩=up rt d { ro with cells:=ro.cells.set k c }:=by
   unfold setCell;simp only[hl,Bool.false_eq_true,if_false]
  simp only[rowN,setCells,h1]
  have hset:ro.cells.set k c=ro.cells.take k++c::ro.cells.drop (k+1):=by
   rw[List.set_eq_take_append_cons_drop,if_pos (by omega)]
  cases cs with
  | nil=>
   simp only[rowN,setCells]
   rw[hset,List.drop_of_length_le (by simp at hlen;omega)]
  | cons c' cs=>
   rw[rowN_eq (ro:={ ro with cells:=ro.cells.set k c }) (lk_up_self _ _ _) (by simp) (by rw[List.length_set];simp at hlen ⊢;omega)]
   rw[up_up1]
   congr 2
   show (ro.cells.set k c).take (k+1)++c'::cs=ro.cells.take k++c::c'::cs
   rw[hset]
   have hk:(ro.cells.take k).length=k:=by rw[List.length_take];simp at hlen;omega
   rw[List.take_append,hk,List.take_of_length_le (by omega)]
   have e1:k+1 - k=1:=by omega
   rw[e1]
   simp
theorem far_place {sz:TypeId→Nat} {z:Zn} {rt:List (Nat×Root)} {gh:Nat→G} {w:World} {Ix:Nat→Prop} {d ver off:Nat} {path:List (Nat×Nat)} {cs:List T} (hp:(placeN d ver path off).run rt=some cs) (hne:cs≠[]):
  ∃ ro,lk rt d=some ro∧∀ I fd,okRoot sz w.heap I (gh d) ro fd→Uniq fd→∀ u0,okPtr ⟨sz,w.heap,Ix,rt,gh⟩ d ver path off u0→∃ B vals new,LendP sz w.heap I (gh d) ro fd B cs vals new∧
   (∀ u,okPtr ⟨sz,w.heap,Ix,rt,gh⟩ d ver path off u→u=.pointer (some ⟨B.b,B.pre.length,none⟩))∧
   ∀ tick cs' s,cs'.length=cs.length→(putN d ver path off cs').run rt=some s→∃ cells2,new cs'=some cells2∧setCells tick rt s=up rt d { ro with cells:=cells2 }:=by
 unfold placeN at hp
 split at hp
 ·obtain⟨ro,g1,g2,g3⟩:=run_root hp
  split at g3
  ·simp only[Rd.run,Option.some.injEq] at g3
   subst g3
   have hoff:off<ro.cells.length:=by
    rcases Nat.lt_or_ge off ro.cells.length with h | h
    ·exact h
    ·exact absurd (List.drop_of_length_le h) hne
   refine⟨ro,g1,fun I fd hk _ u0 hu0=>?_⟩
   obtain⟨B0,hb,_⟩:=hu0 ro g1 g2
   obtain⟨u1,u2,q1,q2,q3⟩:=lendP_top hb hk (Nat.le_of_lt hoff)
   refine⟨_,u2,_,q3,fun u hu=>?_,fun tick cs' s hl hs=>⟨_,rfl,?_⟩⟩
   ·obtain⟨B1,hb1,rfl⟩:=hu ro g1 g2
    have hb1:(gh d).blk=some B1:=hb1
    rw[hb] at hb1
    simp only[Option.some.injEq] at hb1
    subst hb1
    simp only[List.length_append,q2]
   ·simp only[putN,Rd.run,Option.some.injEq] at hs
    subst hs
    rw[List.length_drop] at hl
    exact rowN_eq g1 (by rintro rfl;simp at hl;omega) (by omega)
  ·simp[Rd.run] at g3
 ·rename_i c0 i rest
  obtain⟨ro,t0,g1,g2,g3,g4⟩:=run_cell hp
  split at g4
  ·rename_i cp hd
   simp only[Rd.run,Option.some.injEq] at g4
   subst g4
   have hoff:off<cp.length:=by
    rcases Nat.lt_or_ge off cp.length with h | h
    ·exact h
    ·exact absurd (List.drop_of_length_le h) hne
   refine⟨ro,g1,fun I fd hk huf u0 hu0=>?_⟩
   obtain⟨b,o,arr,el,fz,u1,u2,q1,q2,q3,q4,q5,q6⟩:=lendP_deep hk huf g3 hd (Nat.le_of_lt hoff)
   refine⟨_,u2,_,q6,fun u hu=>?_,fun tick cs' s hl hs=>?_⟩
   ·have:=hu ro g1 g2 cp _ b o (q5 _)
    rw[this]
    simp only[List.length_append,q3,List.length_take,Array.length_toList]
    rw[Nat.min_eq_left (by omega)]
   ·simp only[putN] at hs
    obtain⟨ro2,t02,j1,j2,j3,j4⟩:=run_cell hs
    rw[g1] at j1
    simp only[Option.some.injEq] at j1
    subst j1
    rw[g3] at j3
    simp only[Option.some.injEq] at j3
    subst j3
    split at j4
    ·rename_i t1 hgr
     simp only[Rd.run,Option.some.injEq] at j4
     subst j4
     exact⟨ro.cells.set c0 t1,by simp only[newP,hgr],by simp[setCells,setCell,g1]⟩
    ·simp[Rd.run] at j4
  ·simp[Rd.run] at g4
section far
variable {E:Env} {z:Zn} {n tick:Nat} {fr:List (Nat×T)} {rt:List (Nat×Root)} {gh:Nat→G} {w:World} {FS:List Nat} {a:Act}
variable {call:FuncId→List Arg→Option Res} {me:FuncId} {d:Nat} {ty0:TypeId} {e:Eff} {o:Oper}
theorem farArgs_all {sz:TypeId→Nat} {h:Array Obj} {I:Nat→Prop} {x:Cx} {rt0:List (Nat×Root)} {fL:List Nat}:∀ {ts:List T} {i:Nat} {ms:List Mode} {tys:List TypeId} {us:List Value} {l:FarArgs},(farArgs E i ms tys ts).run rt0=some l→
  (∀ t t' u ty ds,t∈ts→okX x t u→(seal2 (nilOf E ty t)).run rt0=some (t',ds)→(∀ d,d∈ds→d∈l.used)→okV sz h I t' u [])→
  (∀ k d ver path off u cs,T.ptr d ver path off∈ts→okX x (.ptr d ver path off) u→(placeN d ver path off).run rt0=some cs→(⟨k,d,ver,path,off,cs.length⟩:Way)∈l.way→okArg sz h I k ⟨.ptr k 0 [] 0,some ⟨0,0,true,cs⟩⟩ u fL)→
  All2 (okX x) ts us→(l.way=[]→okArgs sz h I i l.args us [])∧∀ y,l.way=[y]→okArgs sz h I i l.args us fL
 | [],i,ms,tys,us,l,h1,_,_,hk=>by
  simp only[farArgs,Rd.run,Option.some.injEq] at h1
  subst h1
  simp only[All2] at hk
  subst hk
  exact⟨fun _=>⟨rfl,rfl⟩,fun y hy=>by simp at hy⟩
 | t::ts,i,ms,tys,us,l,h1,hR,hN,hk=>by
  obtain⟨u,us',rfl,k1,k2⟩:=hk
  simp only[farArgs] at h1
  split at h1
  ·split at h1
   ·rename_i d ver path off
    obtain⟨cs,h2,h3⟩:=run_bind h1
    obtain⟨l',h4,h5⟩:=run_bind h3
    simp only[Rd.run,Option.some.injEq] at h5
    subst h5
    obtain⟨q1,q2⟩:=farArgs_all h4 (fun t t' u ty ds ht=>hR t t' u ty ds (by simp[ht])) (fun k d ver path off u cs hm hx hp hw=>hN k d ver path off u cs (by simp[hm]) hx hp (by simp[hw])) k2
    refine⟨fun hy=>by simp at hy,fun y hy=>?_⟩
    simp only[List.cons.injEq] at hy
    exact⟨u,us',fL,[],rfl,by simp,hN i d ver path off u cs (by simp) k1 h2 (by simp),q1 hy.2⟩
   ·simp[Rd.run] at h1
  ·obtain⟨⟨t',ds⟩,h2,h3⟩:=run_bind h1
   obtain⟨l',h4,h5⟩:=run_bind h3
   simp only[Rd.run,Option.some.injEq] at h5
   subst h5
   obtain⟨q1,q2⟩:=farArgs_all h4 (fun t t' u ty ds ht hx hse hd=>hR t t' u ty ds (by simp[ht]) hx hse (fun d hm=>by simp[hd d hm])) (fun k d ver path off u cs hm hx hp hw=>hN k d ver path off u cs (by simp[hm]) hx hp hw) k2
   have hv:=hR t t' u _ ds (by simp) k1 h2 (fun d hm=>by simp[hm])
   exact⟨fun hy=>⟨u,us',[],[],rfl,rfl,⟨hv,rfl⟩,q1 hy⟩,fun y hy=>⟨u,us',[],fL,rfl,rfl,⟨hv,rfl⟩,q2 y hy⟩⟩
theorem farArgs_way {x:Cx} {rt0:List (Nat×Root)}:∀ {ts:List T} {i:Nat} {ms:List Mode} {tys:List TypeId} {us:List Value} {l:FarArgs},(farArgs E i ms tys ts).run rt0=some l→All2 (okX x) ts us→
  ∀ y,y∈l.way→∃ k u cs,y.i=i+k∧us[k]?=some u∧okX x (.ptr y.d y.ver y.path y.off) u∧(placeN y.d y.ver y.path y.off).run rt0=some cs∧y.n=cs.length∧(l.args[k]?).bind (·.root)=some ⟨0,0,true,cs⟩
 | [],i,ms,tys,us,l,h1,_,y,hy=>by
  simp only[farArgs,Rd.run,Option.some.injEq] at h1
  subst h1
  simp at hy
 | t::ts,i,ms,tys,us,l,h1,hk,y,hy=>by
  obtain⟨u,us',rfl,k1,k2⟩:=hk
  simp only[farArgs] at h1
  split at h1
  ·split at h1
   ·rename_i d ver path off
    obtain⟨cs,h2,h3⟩:=run_bind h1
    obtain⟨l',h4,h5⟩:=run_bind h3
    simp only[Rd.run,Option.some.injEq] at h5
    subst h5
    rcases List.mem_cons.1 hy with rfl | hy
    ·exact⟨0,u,cs,rfl,by simp,k1,h2,rfl,by simp⟩
    ·obtain⟨k,u',cs',q1,q2,q3,q4,q5,q6⟩:=farArgs_way h4 k2 y hy
     exact⟨k+1,u',cs',by omega,by simpa using q2,q3,q4,q5,by simpa using q6⟩
   ·simp[Rd.run] at h1
  ·obtain⟨⟨t',ds⟩,h2,h3⟩:=run_bind h1
   obtain⟨l',h4,h5⟩:=run_bind h3
   simp only[Rd.run,Option.some.injEq] at h5
   subst h5
   obtain⟨k,u',cs',q1,q2,q3,q4,q5,q6⟩:=farArgs_way h4 k2 y hy
   exact⟨k+1,u',cs',by omega,by simpa using q2,q3,q4,q5,by simpa using q6⟩
theorem callFar_ok (ht:TiOk E) (h:Here E z n tick fr rt gh w FS a) (hcall:∀ f args r,call f args=some r→Sound E f args r) {f:FuncId} {tys:List TypeId} {ts:List T} {us:List Value} (hnl:lends (E.mode f)=false)
  (he:(callFar E call me d tick f tys ts).run rt=some e) (hd:EffOk tick rt d e) (hk:All2 (okX ⟨szOf E,w.heap,Inow z w (FS++[]),rt,gh⟩) ts us) (hs:∀ t,t∈ts→stX (Stm tick rt) t):
  Calls E.P f us.toArray w fun | .returned u,w'=>Done E z tick rt (rtOf tick rt d e) gh w FS e.val u w' | _,_=>False:=by
 unfold callFar at he
 obtain⟨l,h1,he1⟩:=run_bind he
 clear he
 split at he1
 ·rename_i y hway
  split at he1
  ·simp[Rd.run] at he1
  ·rename_i hused
   have hused:y.d∉l.used:=by simpa using hused
   split at he1
   ·rename_i r hr
    split at he1
    ·rename_i j cs' houts
     split at he1
     ·rename_i hcond
      obtain⟨c1,c2,c3,c4⟩:=hcond
      obtain⟨s,h3,h4⟩:=run_bind he1
      simp only[Rd.run,Option.some.injEq] at h4
      have hsets:e.sets=s:=by
       rw[←h4,with_sets.2.2]
       have:(sealRes (E.keep me d) d tick r.ret).sets=[]:=by unfold sealRes;split<;>first | exact rooted_sets | rfl
       rw[this];rfl
      obtain⟨k,u,cs,w1,w2,w3,w4,w5,w6⟩:=farArgs_way h1 hk y (by rw[hway];simp)
      rw[Nat.zero_add] at w1
      have hcs:cs≠[]:=by rintro rfl;rw[w5] at c2;have:=List.length_eq_zero_iff.1 c2;subst this;simp at c3
      obtain⟨ro,hl,place⟩:=far_place (sz:=szOf E) (z:=z) (gh:=gh) (w:=w) (Ix:=Inow z w (FS++[])) w4 hcs
      obtain⟨fd,rr,k1,k2,k3,k4⟩:=h.heap.del hl
      have hufd:Uniq fd:=fun x=>by have:=k2.uniq x;simp only[List.count_append,List.count_nil] at this;omega
      obtain⟨B,vals,new,⟨fm,fr',q1,⟨arr0,q2,q2',q2''⟩,q3,q4⟩,hptr,hput⟩:=place _ fd k1 hufd u w3.2
      have hfdlt:∀ b,b∈fd→b<w.heap.size:=fun b hb=>k2.lt b (by simp[hb])
      have hF:∀ b,b∈B.b::fm→b∈fd:=fun b hb=>(q1.mem b).2 (.inl hb)
      have hfr:∀ b,b∈fr'→b∈fd:=fun b hb=>(q1.mem b).2 (.inr hb)
      have hdis:∀ b,b∈fr'→b∉B.b::fm:=fun b h1 h2=>q1.apart hufd h2 h1
      have hz':∀ b,Ileans (Inow z w (rr++(fd++[]))) rr l.used b→b<w.heap.size∧b∉B.b::fm:=fun b hb=>by
       rcases hb with hb | hb
       ·exact⟨(k2.imm hb).1,fun hm=>(k2.imm hb).2 (by simp[hF b hm])⟩
       ·refine⟨k2.lt b (by simp[hb.2]),fun hm=>?_⟩
        have h1:=k2.uniq b
        have h2:=List.count_pos_iff.2 hb.2
        have h3:=List.count_pos_iff.2 (hF b hm)
        simp only[List.count_append,List.count_nil] at h1
        omega
      have hrt2:∀ e,e∈l.used→lk (TM.del rt y.d) e=lk rt e:=fun e he=>lk_del_ne rt y.d e (fun hh=>hused (hh▸he))
      obtain⟨_,args⟩:=farArgs_all (sz:=szOf E) (h:=w.heap) (I:=Ileans (Inow z w (rr++(fd++[]))) rr l.used) (x:=⟨szOf E,w.heap,Inow z w (FS++[]),rt,gh⟩) (fL:=B.b::fm) h1
       (fun t t' u ty ds _ hx hseal hu=>by
        have hx2:=k4.x stX_True hx
        obtain⟨n1,n2⟩:=nilOf_ok ht (S:=fun _ _=>True) (ty:=ty) hx2 stX_True
        have hcg:=seal2_congr (rt':=TM.del rt y.d) hseal (fun e he=>hrt2 e (hu e he))
        exact okV_leans (seal2_ok k2 n1 hcg) (fun hne=>by
         obtain⟨e,he⟩:=List.exists_mem_of_ne_nil ds hne
         exact List.ne_nil_of_mem (hu e he)))
       (fun k' d' ver' path' off' u' cs2 _ hx hp hw=>by
        rw[hway] at hw
        simp only[List.mem_singleton] at hw
        subst hw
        rw[hp] at w4
        simp only[Option.some.injEq] at w4
        subst w4
        refine⟨⟨some B,vals⟩,⟨rfl,fm,arr0,rfl,q2,q2',q2'',okL_agree ⟨fun b hb=>⟨.inl hb,rfl⟩,fun b _=>rfl⟩ q3⟩,rfl,Nat.zero_le 1,.inl ⟨rfl,rfl,B,rfl,hptr u' hx.2⟩⟩) hk
      have hok:=args y hway
      have hsound:=(hcall f l.args r hr).old hnl ⟨w,B.b::fm,Ileans (Inow z w (rr++(fd++[]))) rr l.used,hz',fun g p hg=>⟨.inl (k2.gok g p hg).1,(k2.gok g p hg).2⟩⟩ us (q1.uniq_l hufd) (fun b hb=>hfdlt b (hF b hb)) hok
      refine Calls.mono' hsound fun u2 w' back=>?_
      obtain⟨bfr,⟨f',fo,b1,b2,b3,b4⟩,bcl⟩:=back
      rw[houts] at b2
      obtain⟨B',f1,f2,arr',vals',hfo,o1,o2,o3,o4,o5,⟨arr00,vals0,p1,p2,p3⟩,hf2⟩:=b2
      have hf2:f2=[]:=hf2
      subst hf2
      rw[List.append_nil] at hfo
      subst hfo
      have hj:us[j]?=some (.pointer (some ⟨B.b,B.pre.length,none⟩)):=by rw[c1,w1,w2,hptr u w3.2]
      rw[hj] at o1
      simp only[Option.some.injEq,Value.pointer.injEq,Addr.mk.injEq] at o1
      obtain⟨y1,y2,_⟩:=o1
      have hroot:=p3 ⟨0,0,true,cs⟩ (by rw[c1,w1];exact w6)
      have hvl:vals.length=cs.length:=okL_length q3
      obtain⟨rfl,rfl⟩:=blk_same y1.symm y2.symm q2 q2'' p1 p2 (by rw[hroot.1,hvl])
      have hsk:=hroot.2 rfl
      have hwsz:w.heap.size≤w'.heap.size:=bfr.size
      have hz2:∀ b,Inow z w (rr++(fd++[])) b→b<w.heap.size∧b∉fd:=fun b hb=>⟨(k2.imm hb).1,fun hm=>(k2.imm hb).2 (by simp[hm])⟩
      have bfr2:Fr ⟨w,fd,_,hz2,k2.gok⟩ w':=⟨bfr.os,bfr.output,bfr.tape,bfr.size,fun b hb hn=>bfr.block b hb fun hm=>hn (hF b hm)⟩
      have hzb:∀ b,b∈f'++B'.b::f1→b∉fr':=fun b hb hm=>by
       rcases (b4 b hb).2 with h5 | h5
       ·exact hdis b hm h5
       ·have:=hfdlt b (hfr b hm);change w.heap.size≤b at h5;omega
      have hu3:Uniq (fr'++(f'++B'.b::f1)):=fun x=>by
       have e1:=b3 x
       have e2:=q1.uniq_r hufd x
       by_cases hx:x∈f'++B'.b::f1
       ·have:=List.count_eq_zero.2 (hzb x hx)
        rw[List.count_append]
        omega
       ·have:=List.count_eq_zero.2 hx
        rw[List.count_append]
        omega
      obtain⟨r3,kp3,hI3⟩:=k2.after (z':=⟨w,fd,_,hz2,k2.gok⟩) (w':=w') (X':=fr'++(f'++B'.b::f1)) rfl (fun b hb=>by simpa using hb) bfr2 hu3 (fun b hb=>by
       rcases List.mem_append.1 hb with hb | hb
       ·have:=hfdlt b (hfr b hb);exact⟨by omega,.inl (hfr b hb)⟩
       ·obtain⟨h5,h6⟩:=b4 b hb
        exact⟨h5,h6.imp (fun h=>hF b h) id⟩)
      have hI4:∀ b,Inow ⟨w,B'.b::fm,Ileans (Inow z w (rr++(fd++[]))) rr l.used,hz',fun g p hg=>⟨.inl (k2.gok g p hg).1,(k2.gok g p hg).2⟩⟩ w' (f'++B'.b::f1) b→Inow z w' (rr++(fr'++(f'++B'.b::f1))) b∨(l.used≠[]∧b∈rr):=fun b hb=>by
       rcases hb with hb | ⟨h5,h6,h7⟩
       ·rcases hb with hb | hb
        ·exact .inl (hI3 b hb)
        ·exact .inr hb
       ·refine .inl (.inr ⟨?_,h6,fun hm=>?_⟩)
        ·rcases h5 with h5 | h5
         ·exact k2.zone b (by simp[hF b h5])
         ·have:=k2.fr.size;change w.heap.size≤b at h5;exact .inr (by omega)
        ·rcases List.mem_append.1 hm with hm | hm
         ·rcases h5 with h5 | h5
          ·have e1:=k2.uniq b
           have e2:=List.count_pos_iff.2 hm
           have e3:=List.count_pos_iff.2 (hF b h5)
           simp only[List.count_append,List.count_nil] at e1
           omega
          ·have:=k2.lt b (by simp[hm]);change w.heap.size≤b at h5;omega
         ·rcases List.mem_append.1 hm with hm | hm
          ·rcases h5 with h5 | h5
           ·exact hdis b hm h5
           ·have:=hfdlt b (hfr b hm);change w.heap.size≤b at h5;omega
          ·exact h7 hm
      have hret:okV (szOf E) w'.heap (Inow z w' (rr++(fr'++(f'++B'.b::f1)))) r.ret u2 f'∧okL (szOf E) w'.heap (Inow z w' (rr++(fr'++(f'++B'.b::f1)))) cs' vals' f1:=by
       rcases Bool.or_eq_true_iff.1 c4 with hx | hx
       ·simp only[Bool.and_eq_true] at hx
        exact⟨okV_clean (bcl hx.1) b1,okL_clean hx.2 o5⟩
       ·have hu:l.used=[]:=by simpa using hx
        have hag:∀ b,Inow ⟨w,B'.b::fm,Ileans (Inow z w (rr++(fd++[]))) rr l.used,hz',fun g p hg=>⟨.inl (k2.gok g p hg).1,(k2.gok g p hg).2⟩⟩ w' (f'++B'.b::f1) b→Inow z w' (rr++(fr'++(f'++B'.b::f1))) b:=fun b hb=>by
         rcases hI4 b hb with h | h
         ·exact h
         ·exact absurd hu h.1
        exact⟨okV_agree ⟨fun b hb=>⟨hag b hb,rfl⟩,fun b _=>rfl⟩ b1,okL_agree ⟨fun b hb=>⟨hag b hb,rfl⟩,fun b _=>rfl⟩ o5⟩
      obtain⟨cells2,hnew,hset⟩:=hput tick cs' s (by rw[c2,w5]) h3
      obtain⟨g1,f3,m1,m2,m3,m4⟩:=q4 w'.heap (Inow z w' (rr++(fr'++(f'++B'.b::f1)))) cs' f1 vals' arr' cells2 (fun x hx=>⟨hI3 x hx,(kp3.old x hx).2⟩)
       (fun x hx=>bfr.block x (hfdlt x (hfr x hx)) (hdis x hx)) o2 o4 (by rw[okL_length o5,c2,w5,hvl]) hret.2 hsk hnew
      obtain⟨r4,hI5⟩:=r3.perm (X':=f3++(f'++[])) fun x=>by
       have:=m2 x
       simp only[List.count_append,List.count_nil,List.count_cons] at *
       omega
      have kp4:Keeps ⟨szOf E,w.heap,Inow z w (FS++[]),rt,gh⟩ ⟨szOf E,w'.heap,Inow z w' (rr++(f3++(f'++[]))),TM.del rt y.d,gh⟩ (Stm tick rt):=
       ((k4.trans kp3 fun _ _ h=>h).trans (r3.keeps_refl (fun _ _=>True) fun b hb=>(hI5 b).1 hb) fun _ _ h=>h) |> fun k=>⟨k.sz,k.old,fun d s r' _=>k.hdr d s r' trivial,fun d s r' _=>k.top d s r' trivial⟩
      obtain⟨FS3,r5,hI6,kp5⟩:=r4.back3 (d:=y.d) (r1:={ ro with cells:=cells2 }) (okRoot_agree ⟨fun b hb=>⟨(hI5 b).1 hb,rfl⟩,fun b _=>rfl⟩ m1) kp4 ⟨ro,hl,rfl,rfl,m3,m4⟩
      rw[up_del h.heap.srt,←hset] at r5 kp5
      have hv:okV (szOf E) w'.heap (Inow z w' (FS3++(f'++[]))) r.ret u2 f':=okV_agree ⟨fun b hb=>⟨hI6 b ((hI5 b).1 hb),rfl⟩,fun b _=>rfl⟩ hret.1
      have sl:Slot (szOf E) z tick d (setCells tick rt s) (gset gh y.d g1) w' (Inow z w' (FS3++(f'++[]))) (sealRes (E.keep me d) d tick r.ret) u2:=by
       unfold sealRes
       cases hkp:E.keep me d with
       | true=>
        simp only[if_true]
        exact slot_ok r5 hv (fun hsome r0 h0=>by
         obtain⟨rr',hrr⟩:=Option.isSome_iff_exists.1 hsome
         exact newOk_lt (hd.new rr' (by rw[←h4,with_sets.2.1];unfold sealRes;rw[hkp];exact hrr)) h0)
       | false=>
        simp only[Bool.false_eq_true,if_false]
        obtain⟨_,hI7⟩:=drop_floats r5
        have hseal:=okV_seal (I':=Inow z w' (FS3++[])) hI7 (fun b hb=>.inr ⟨r5.zone b (by simp[hb]),r5.lt b (by simp[hb]),fun hm=>by
         have h1:=r5.uniq b
         have h2:=List.count_pos_iff.2 hb
         have h3:=List.count_pos_iff.2 hm
         simp only[List.count_append,List.count_nil] at h1 h3
         omega⟩) hv
        have h0:=okV_0 (x:=⟨szOf E,w'.heap,Inow z w' (FS3++[]),setCells tick rt s,gset gh y.d g1⟩) (S:=Stm tick (setCells tick rt s)) hseal
        exact slot_plain r5 h0.1 h0.2
      obtain⟨gh2,FS4,z1,z2,z3,z4⟩:=sl
      have hroot:e.root=(sealRes (E.keep me d) d tick r.ret).root:=by rw[←h4];rfl
      have hval:e.val=(sealRes (E.keep me d) d tick r.ret).val:=by rw[←h4];rfl
      show Done _ _ _ _ _ _ _ _ _ _ _
      rw[rtOf_eq,hsets,hroot,hval]
      exact⟨gh2,FS4,z1,kp5.trans z2 fun a b h=>Stm_sets a b h,z3,z4⟩
     ·simp[Rd.run] at he1
    ·simp[Rd.run] at he1
   ·simp[Rd.run] at he1
 ·simp[Rd.run] at he1
end far
theorem up_same {α:Type}:∀ {l:List (Nat×α)} {d:Nat} {x:α},lk l d=some x→Srt l→up l d x=l
 | [],d,x,h,_=>by simp[lk] at h
 | (k,y)::l,d,x,h,hs=>by
  simp only[lk] at h
  simp only[up]
  split at h
  ·rename_i hk
   simp only[Option.some.injEq] at h
   subst hk;subst h
   simp
  ·rename_i hk
   rw[if_neg hk]
   split
   ·rename_i hlt
    have:=hs.1 (d,x) (lk_mem h)
    simp only at this
    omega
   ·rw[up_same h hs.2]
theorem up_up0 {α:Type}:∀ {l:List (Nat×α)} {d:Nat} {x y:α},up (up l d x) d y=up l d y
 | [],d,x,y=>by simp[up]
 | (k,v)::l,d,x,y=>by
  simp only[up]
  split
  ·rename_i hk;subst hk;simp[up]
  ·rename_i hk
   split
   ·simp[up]
   ·rename_i hlt
    simp only[up,if_neg hk,if_neg hlt,up_up0]
theorem putCells_nil:∀ {k:Nat} {cs:List T},putCells k [] cs=cs
 | 0,[]=>rfl
 | 0,_::_=>rfl
 | _+1,[]=>rfl
 | k+1,c::cs=>by simp only[putCells,putCells_nil]
theorem putCells_own:∀ {k:Nat} {t:T} {r cs:List T},isOwn t=true→k<cs.length→putCells k (t::r) cs=putCells (k+1) r (cs.set k t)
 | _,_,_,[],_,h=>by simp at h
 | 0,t,r,c::cs,h,_=>by simp[putCells,h]
 | k+1,t,r,c::cs,h,hl=>by simp only[List.set_cons_succ,putCells];rw[putCells_own h (by simpa using hl)]
theorem putCells_not:∀ {k:Nat} {t:T} {r cs:List T},isOwn t=false→k<cs.length→putCells k (t::r) cs=putCells (k+1) r cs
 | _,_,_,[],_,h=>by simp at h
 | 0,t,r,c::cs,h,_=>by simp[putCells,h]
 | k+1,t,r,c::cs,h,hl=>by simp only[putCells];rw[putCells_not h (by simpa using hl)]
theorem putRow_eq {tick d:Nat}:∀ {row:List T} {k:Nat} {rt:List (Nat×Root)} {ro:Root},Srt rt→lk rt d=some ro→k+row.length≤ro.cells.length→
  setCells tick rt (putRow d k row)=up rt d { ro with cells:=putCells k row ro.cells }
 | [],k,rt,ro,hs,hl,_=>by
  simp only[putRow,setCells,putCells_nil]
  exact (up_same hl hs).symm
 | t::row,k,rt,ro,hs,hl,hn=>by
  simp only[List.length_cons] at hn
  simp only[putRow]
  cases ht:isOwn t with
  | true=>
   simp only[if_true,setCells,setCell,hl,Bool.false_eq_true,if_false]
   rw[putRow_eq (up_srt hs) (lk_up_self _ _ _) (by simp;omega),up_up0,putCells_own ht (by omega)]
  | false=>
   simp only[Bool.false_eq_true,if_false]
   rw[putRow_eq hs hl (by omega),putCells_not ht (by omega)]
theorem lendRow_length {d ver:Nat}:∀ {views cs row k},lendRow d ver k views cs=some row→row.length=views.length∧views.length≤cs.length∧row.all lentCell=true
 | [],cs,row,k,h=>by simp only[lendRow,Option.some.injEq] at h;subst h;simp
 | t::ts,[],row,k,h=>by simp[lendRow] at h
 | t::ts,c::cs,row,k,h=>by
  simp only[lendRow] at h
  split at h
  ·rename_i x hx
   split at h
   ·rename_i xs hxs
    simp only[Option.some.injEq] at h
    subst h
    obtain⟨h1,h2,h3⟩:=lendRow_length hxs
    refine⟨by simp[h1],by simpa using h2,?_⟩
    simp only[List.all_cons,h3,Bool.and_true]
    unfold lendCell at hx
    split at hx
    ·split at hx
     ·simp only[Option.some.injEq] at hx;subst hx;rfl
     ·simp at hx
    ·split at hx
     ·simp only[Option.some.injEq] at hx;subst hx;rfl
     ·simp at hx
    ·simp at hx
   ·simp at h
  ·simp at h
theorem drop_cons_of {α:Type} {l:List α} {k:Nat} {u:α} (h:l[k]?=some u):∃ r,l.drop k=u::r:=by
 obtain⟨hk,rfl⟩:=List.getElem?_eq_some_iff.1 h
 exact⟨_,List.drop_eq_getElem_cons hk⟩
theorem LV_of {x:Cx} {d ver:Nat} {ro:Root} (hl:lk x.rt d=some ro) (hv:ro.hver=ver):∀ {views:List T} {us:List Value} {k:Nat} {row:List T},All2 (okX0 x) views us→
  lendRow d ver k views (ro.cells.drop k)=some row→LV views us ((x.gh d).vals.drop k)
 | [],us,k,row,hk,_=>hk
 | t::ts,us,k,row,hk,hr=>by
  obtain⟨u,us',rfl,k1,k2⟩:=hk
  cases hc:ro.cells.drop k with
  | nil=>rw[hc] at hr;simp[lendRow] at hr
  | cons c cs=>
   rw[hc] at hr
   simp only[lendRow] at hr
   split at hr
   ·rename_i y hy
    split at hr
    ·rename_i ys hys
     have hcs:ro.cells.drop (k+1)=cs:=by
      have:=congrArg List.tail hc
      simpa[List.tail_drop] using this
     have hck:ro.cells[k]?=some c:=by
      have:(ro.cells.drop k)[0]?=some c:=by rw[hc];rfl
      simpa using this
     refine⟨u,us',rfl,fun v hv=>?_,fun hv=>?_,?_⟩
     ·subst hv
      have:okV x.sz x.h x.I (.v v) u []:=k1
      simp only[okV,and_true] at this
      exact this
     ·unfold lendCell at hy
      split at hy
      ·rename_i d' v' c' n e es
       split at hy
       ·rename_i hh
        obtain⟨rfl,rfl,rfl,rfl⟩:=hh
        have:=k1.2 ro hl (by assumption) ro.cells (x.gh d').vals (x.addr d') rfl e es hck rfl
        exact drop_cons_of this
       ·simp at hy
      ·exact absurd rfl (hv _)
      ·simp at hy
     ·rw[List.drop_drop]
      exact LV_of hl hv k2 (by rw[hcs];exact hys)
    ·simp at hr
   ·simp at hr
section call
variable {E:Env} {z:Zn} {n tick:Nat} {fr:List (Nat×T)} {rt:List (Nat×Root)} {gh:Nat→G} {w:World} {FS:List Nat} {a:Act}
variable {call:FuncId→List Arg→Option Res} {d:Nat} {e:Eff}
theorem lend_done {me:FuncId} {f:FuncId} {uargs:List Value} {x:Value} {dd:Nat} {ro:Root} {cells':List T} (hval:e={ val:=.v x,sets:=e.sets }) (hroot:e.root=none) (hsets:setCells tick rt e.sets=up rt dd { ro with cells:=cells' })
  (hc:Calls E.P f uargs.toArray w fun
   | .returned u',w'=>u'=x∧∃ FS',HRel (szOf E) z (up rt dd { ro with cells:=cells' }) gh w' FS' []∧Keeps ⟨szOf E,w.heap,Inow z w (FS++[]),rt,gh⟩ ⟨szOf E,w'.heap,Inow z w' (FS'++[]),up rt dd { ro with cells:=cells' },gh⟩ (Stm tick rt)
   | _,_=>False):
  Calls E.P f uargs.toArray w fun | .returned u,w'=>Done E z tick rt (rtOf tick rt d e) gh w FS e.val u w' | _,_=>False:=by
 refine Calls.mono' hc fun u w' hx=>?_
 obtain⟨rfl,FS',h1,h2⟩:=hx
 have hr:rtOf tick rt d e=up rt dd { ro with cells:=cells' }:=by unfold rtOf;rw[hroot];exact hsets
 rw[hr]
 have hv:e.val=.v u:=by rw[hval]
 rw[hv]
 exact⟨gh,FS',h1,h2,okX_v.2 rfl,trivial⟩
theorem lendOne_ok (h:Here E z n tick fr rt gh w FS a) (hcall:∀ f args r,call f args=some r→Sound E f args r) {f:FuncId} (hnl:lends (E.mode f)=true) {dd ver c m:Nat} {path:List (Nat×Nat)} {xs:List T} {us:List Value}
  (he:(lendOne call f dd ver path c m xs).run rt=some e) (hk:All2 (okX ⟨szOf E,w.heap,Inow z w (FS++[]),rt,gh⟩) (.ref dd ver path c m::xs) us):
  Calls E.P f us.toArray w fun | .returned u,w'=>Done E z tick rt (rtOf tick rt d e) gh w FS e.val u w' | _,_=>False:=by
 unfold lendOne at he
 obtain⟨⟨ee,es⟩,h1,he1⟩:=run_bind he
 obtain⟨ys,h2,he2⟩:=run_bind he1
 have hys:=run_of h2
 obtain⟨u,us',rfl,k1,k2⟩:=hk
 have hus:=valsOf_X hys k2
 subst hus
 split at he2
 ·rename_i r hr
  split at he2
  ·rename_i x e' es' hret houts
   obtain⟨s,h3,h4⟩:=run_bind he2
   simp only[Rd.run,Option.some.injEq] at h4
   subst h4
   unfold content at h1
   obtain⟨t,h5,h6⟩:=run_bind h1
   cases t with
   | own e0 es0=>
    simp only at h6
    split at h6
    ·rename_i hn
     simp only[Rd.run,Option.some.injEq,Prod.mk.injEq] at h6
     obtain⟨rfl,rfl⟩:=h6
     subst hn
     have callee:∀ z':Zn,z'.w0=w→Uniq z'.F0→(∀ b,b∈z'.F0→b<w.heap.size)→okL (szOf E) w.heap z'.I0 [.own e0 es0] [u] z'.F0→Calls E.P f (u::us').toArray w fun
       | .returned u',w'=>u'=x∧BackL (szOf E) z' [u] [.own e0 es0] [.own e' es'] w'
       | _,_=>False:=fun z' hw hu hlt hok=>by
      subst hw
      obtain⟨x2,row2,q1,q2,q3⟩:=(hcall f _ r hr).lend hnl z' _ us' _ u [u] rfl (.one e0 es0 u) rfl hu hlt hok
      rw[hret] at q1
      rw[houts] at q2
      simp only[T.v.injEq,List.cons.injEq,Prod.mk.injEq,and_true,true_and] at q1 q2
      subst q1;subst q2
      exact Calls.mono' q3 fun _ _ hx=>hx
     have hx0:okX0 ⟨szOf E,w.heap,Inow z w (FS++[]),rt,gh⟩ (.ref dd ver path c es0.length) u:=k1
     cases path with
     | nil=>
      simp only[putBack,Rd.run,Option.some.injEq] at h3
      subst h3
      simp only[rdPlace] at h5
      obtain⟨ro,t,g1,g2,g3,g4⟩:=run_cell h5
      simp only[Rd.run,Option.some.injEq] at g4
      subst g4
      have hval:(gh dd).vals[c]?=some u:=hx0.2 ro g1 g2 ro.cells _ _ rfl e0 es0 g3 rfl
      obtain⟨ct,hct⟩:=drop_cons_of g3
      obtain⟨vt,hvt⟩:=drop_cons_of hval
      have hlt:c<ro.cells.length:=(List.getElem?_eq_some_iff.1 g3).1
      refine lend_done (me:=0) (dd:=dd) (ro:=ro) (cells':=ro.cells.set c (.own e' es')) rfl rfl (by simp[setCells,setCell,g1]) ?_
      refine lend_root (uargs:=u::us') (x:=x) (row:=[.own e0 es0]) (row':=[.own e' es']) (us:=[u]) (new:=fun row'=>if row'.map isOwn=[T.own e0 es0].map isOwn∧row'.all lentCell=true then some (putCells c row' ro.cells) else none) h.heap g1 (fun f0 I hL _=>?_) callee ?_
      ·refine lendT_row (d:=dd) (ver:=ver) (views:=[.ref dd ver [] c es0.length]) (j:=c) hL ?_ ?_
       ·rw[hct];simp[lendRow,lendCell]
       ·rw[hvt];exact⟨u,[],rfl,fun y hy=>by simp at hy,fun _=>⟨vt,rfl⟩,rfl⟩
      ·simp only[List.map_cons,isOwn,List.map_nil,List.all_cons,lentCell,List.all_nil,Bool.and_self,and_self,if_true,Option.some.injEq]
       rw[putCells_own rfl hlt,putCells_nil]
     | cons p rest=>
      obtain⟨c0,i⟩:=p
      simp only[rdPlace] at h5
      obtain⟨ro,t0,g1,g2,g3,g4⟩:=run_cell h5
      split at g4
      ·rename_i cp hd
       split at g4
       ·rename_i tt htt
        simp only[Rd.run,Option.some.injEq] at g4
        subst g4
        simp only[putBack] at h3
        obtain⟨ro2,t02,j1,j2,j3,j4⟩:=run_cell h3
        rw[g1] at j1
        simp only[Option.some.injEq] at j1
        subst j1
        rw[g3] at j3
        simp only[Option.some.injEq] at j3
        subst j3
        split at j4
        ·rename_i t1 hgr
         simp only[Rd.run,Option.some.injEq] at j4
         subst j4
         refine lend_done (me:=0) (dd:=dd) (ro:=ro) (cells':=ro.cells.set c0 t1) rfl rfl (by simp[setCells,setCell,g1]) ?_
         refine lend_root (uargs:=u::us') (x:=x) (row:=[.own e0 es0]) (row':=[.own e' es']) (us:=[u]) (new:=newDeep ro.cells c0 i rest t0 c) h.heap g1 (fun f0 I hL hu0=>?_) callee ?_
         ·refine lendT_deep hL hu0 g3 hd htt fun vsp ad hloc=>?_
          have h0:=hx0.2 ro g1 g2
          obtain⟨u0,fo,fr0,v0,q0,kk0,rb0⟩:=okL_focus hL g3
          have hl2:loc (szOf E) w.heap ro.cells (gh dd).vals ((⟨szOf E,w.heap,Inow z w (FS++[]),rt,gh⟩:Cx).addr dd) ((c0,i)::rest)=some (cp,vsp,ad):=by
           rw[loc_head (ad':=none) g3 v0]
           rw[loc_head (ad':=none) g3 v0] at hloc
           exact hloc
          exact h0 cp vsp ad hl2 e0 es0 htt rfl
         ·simp only[newDeep,hgr]
        ·simp[Rd.run] at j4
       ·simp[Rd.run] at g4
      ·simp[Rd.run] at g4
    ·simp[Rd.run] at h6
   | _=>simp[Rd.run] at h6
  ·simp[Rd.run] at he2
 ·simp[Rd.run] at he2
theorem lendMany_ok (h:Here E z n tick fr rt gh w FS a) (hcall:∀ f args r,call f args=some r→Sound E f args r) {f:FuncId} (hnl:lends (E.mode f)=true) {cs xs:List T} {us:List Value}
  (he:(lendMany call f cs xs).run rt=some e) (hk:All2 (okX ⟨szOf E,w.heap,Inow z w (FS++[]),rt,gh⟩) (.agg cs::xs) us):
  Calls E.P f us.toArray w fun | .returned u,w'=>Done E z tick rt (rtOf tick rt d e) gh w FS e.val u w' | _,_=>False:=by
 unfold lendMany at he
 obtain⟨⟨dd,ver,k⟩,hfirst,he1⟩:=run_bind he
 obtain⟨ro,g1,g2,he2⟩:=run_root he1
 obtain⟨row,h3,he3⟩:=run_bind he2
 obtain⟨ys,h4,he4⟩:=run_bind he3
 have hrow:=run_of h3
 have hys:=run_of h4
 obtain⟨u,us',rfl,k1,k2⟩:=hk
 have hus:=valsOf_X hys k2
 subst hus
 obtain⟨vs,rfl,k3⟩:=k1
 split at he4
 ·rename_i r hr
  split at he4
  ·rename_i x row' hret houts
   split at he4
   ·rename_i hshape
    simp only[Rd.run,Option.some.injEq] at he4
    subst he4
    obtain⟨n1,n2,n3⟩:=lendRow_length hrow
    simp only[List.length_drop] at n2
    have hlen:row'.length=row.length:=by simpa using congrArg List.length hshape
    have hlc:row'.all lentCell=true:=(hcall f _ r hr).cells hnl 0 row' (by rw[houts];simp)
    refine lend_done (me:=0) (dd:=dd) (ro:=ro) (cells':=putCells k row' ro.cells) rfl rfl (putRow_eq h.heap.srt g1 (by cases cs with | nil=>simp[firstRef,Rd.of,Rd.run] at hfirst | cons _ _=>simp only[List.length_cons] at n1 n2;omega)) ?_
    refine lend_root (uargs:=.agg vs.toArray::us') (x:=x) (row:=row) (row':=row') (us:=vs) (new:=fun row'=>if row'.map isOwn=row.map isOwn∧row'.all lentCell=true then some (putCells k row' ro.cells) else none) h.heap g1 (fun f0 I hL _=>?_) (fun z' hw hu hlt hok=>?_) (if_pos ⟨hshape,hlc⟩)
    ·exact lendT_row (j:=k) hL hrow (LV_of (x:=⟨szOf E,w.heap,Inow z w (FS++[]),rt,gh⟩) g1 g2 k3 hrow)
    ·subst hw
     obtain⟨x2,row2,q1,q2,q3⟩:=(hcall f _ r hr).lend hnl z' _ us' _ _ vs rfl (.row row vs) n3 hu hlt hok
     rw[hret] at q1
     rw[houts] at q2
     simp only[T.v.injEq,List.cons.injEq,Prod.mk.injEq,and_true,true_and] at q1 q2
     subst q1;subst q2
     exact Calls.mono' q3 fun _ _ hx=>hx
   ·simp[Rd.run] at he4
  ·simp[Rd.run] at he4
 ·simp[Rd.run] at he4
theorem lend_ok (h:Here E z n tick fr rt gh w FS a) (hcall:∀ f args r,call f args=some r→Sound E f args r) {f:FuncId} (hnl:lends (E.mode f)=true) {ts:List T} {us:List Value}
  (he:(lendEff call f ts).run rt=some e) (hk:All2 (okX ⟨szOf E,w.heap,Inow z w (FS++[]),rt,gh⟩) ts us):
  Calls E.P f us.toArray w fun | .returned u,w'=>Done E z tick rt (rtOf tick rt d e) gh w FS e.val u w' | _,_=>False:=by
 unfold lendEff at he
 split at he
 ·exact lendOne_ok h hcall hnl he hk
 ·exact lendMany_ok h hcall hnl he hk
 ·simp[Rd.run] at he
theorem elem_ptr {d' ver c nn m:Nat} {path:List (Nat×Nat)} {u:Value} {e':TypeId} {es:List (List T)} (h:Here E z n tick fr rt gh w FS a) (k1:okRef ⟨szOf E,w.heap,Inow z w (FS++[]),rt,gh⟩ d' ver path c nn u)
  (h6:(TM.content d' ver path c nn).run rt=some (e',es)) (hm:m<es.length):
  ∃ b o' cap,u=.slice (some ⟨b,o',none⟩) es.length cap∧okPtr ⟨szOf E,w.heap,Inow z w (FS++[]),rt,gh⟩ d' ver (path++[(c,m)]) 0 (.pointer (some ⟨b,o'+m*szOf E e',none⟩)):=by
 obtain⟨f,r1,r2,r3⟩:=h.heap.content k1 h6
 have hg:es[m]?=some es[m]:=by simp[hm]
 obtain⟨b,o',cap,arr,elt,fz,fs',v1,v2,v3,v4,v5,v6,v7⟩:=own_some r1 hg
 refine⟨b,o',cap,v1,okPtr_of (by simp) ?_⟩
 intro r g1 g2 cs vs b2 o2 g3
 have g3:loc (szOf E) w.heap r.cells (gh d').vals ((gh d').blk.map fun b=>(b.b,b.pre.length)) (path++[(c,m)])=some (cs,vs,some (b2,o2)):=g3
 rw[loc_snoc] at g3
 obtain⟨⟨cs0,vs0,ad0⟩,g4,g5⟩:=Option.bind_eq_some_iff.1 g3
 simp only[loc] at g5
 split at g5
 ·rename_i e2 es2 a2 _ _ g6 g7
  split at g5
  ·rename_i cs' arr2 _ _ g8 g9
   simp only[Option.some.injEq,Prod.mk.injEq] at g5
   obtain⟨rfl,_,g10,g11⟩:=g5
   obtain⟨r',m1,m2,m3⟩:=content_tree h6
   rw[g1] at m1
   simp only[Option.some.injEq] at m1;subst m1
   obtain⟨m4,m5⟩:=m3 cs0 (loc_descend g4)
   rw[m4] at g6
   simp only[Option.some.injEq,T.own.injEq] at g6
   obtain⟨rfl,rfl⟩:=g6
   have m6:=k1 r g1 g2 cs0 vs0 ad0 g4 e' es m4 m5
   rw[g7,v1] at m6
   simp only[Option.some.injEq,Value.slice.injEq] at m6
   obtain⟨rfl,_⟩:=m6
   dsimp only at g10 g11
   subst g10;subst g11
   rfl
  ·simp at g5
 ·simp at g5
theorem viewCall_ok (h:Here E z n tick fr rt gh w FS a) {f:FuncId} {v:View} {keep:Bool} (hv:ViewOk E f v) {ts:List T} {us:List Value}
  (he:(viewEff call keep tick f v ts).run rt=some e) (hk:All2 (okX ⟨szOf E,w.heap,Inow z w (FS++[]),rt,gh⟩) ts us) (hs:∀ t,t∈ts→stX (Stm tick rt) t):
  Calls E.P f us.toArray w fun | .returned u,w'=>Done E z tick rt (rtOf tick rt d e) gh w FS e.val u w' | _,_=>False:=by
 unfold viewEff at he
 split at he
 ·split at he
  ·rename_i d' ver path c nn t1 t2 k xs
   obtain⟨⟨e',es⟩,h6,he6⟩:=run_bind he
   split at he6
   ·rename_i hc
    obtain⟨c1,c2,c3,c4⟩:=hc
    dsimp only at c3
    subst c3
    obtain⟨cs,h7,he7⟩:=run_bind he6
    split at he7
    ·rename_i e2 es2
     obtain⟨u1,us1,rfl,k1,u2,us2,rfl,k2,rfl⟩:=hk
     obtain⟨l1,rfl,k3⟩:=k1
     obtain⟨a1,l2,rfl,⟨k4,k5⟩,a2,l3,rfl,_,a3,l4,rfl,_,rfl⟩:=k3
     obtain⟨l5,rfl,k6⟩:=k2
     obtain⟨a4,l6,rfl,k7,k8⟩:=k6
     have k7:okV (szOf E) w.heap (Inow z w (FS++[])) (.v (.int .i64 k)) a4 []:=k7
     simp only[okV] at k7
     obtain⟨rfl,_⟩:=k7
     have hlen:es.length=nn:=(h.heap.content k5 h6).choose_spec.2.1
     obtain⟨m,rfl⟩:∃ m:Nat,k=m:=⟨k.toNat,by omega⟩
     have hm:m<es.length:=by omega
     simp only[Int.toNat_natCast] at h7 he7
     obtain⟨b,o',cap,rfl,kp⟩:=elem_ptr h k5 h6 hm
     obtain⟨ro,cs0,b3,o3,arr,el,fz,f3,R,q1,q2⟩:=h.heap.row kp h7 (.inl (by omega))
     have hval:=R.val
     simp only[Value.pointer.injEq,Option.some.injEq,Addr.mk.injEq,Nat.add_zero] at hval
     obtain⟨rfl,ho,_⟩:=hval
     have hst:Stm tick rt d' ver:=by
      have h9:stX (Stm tick rt) (T.agg [T.ref d' ver path c nn,t1,t2]):=hs _ (by simp)
      exact h9 (T.ref d' ver path c nn) (by simp)
     have hfit:=R.fits
     have hal:arr.toList.length=arr.size:=Array.length_toList
     have hcell0:cs0[0]?=some (.own e2 es2):=by
      rw[List.drop_zero] at q2
      have:(cs0.take 1)[0]?=some (T.own e2 es2):=by rw[←q2];rfl
      rw[List.getElem?_take] at this
      simpa using this
     have hlt:o3<arr.size:=by omega
     have hv0:((arr.toList.drop o3).take cs0.length)[0]?=some arr[o3]:=by
      rw[List.getElem?_take,if_pos (by omega),List.getElem?_drop,Nat.add_zero,Array.getElem?_toList,Array.getElem?_eq_getElem hlt]
     have href:=okRef_of_row h.heap R 0 e2 es2 arr[o3] hcell0 hv0
     have hcellw:w.cell? ⟨b,o3,none⟩=some arr[o3]:=cell_of R.heap (Array.getElem?_eq_getElem hlt)
     have hslice:∃ ad cap,arr[o3]=.slice ad es2.length cap:=by
      obtain⟨f',rr,y1,y2⟩:=okL_sub 0 1 R.ok (by omega)
      rw[←q2] at y2
      simp only[okL] at y2
      obtain⟨u9,us9,f9,f8,y3,_,y4,_⟩:=y2
      have:(((arr.toList.drop o3).take cs0.length).drop 0).take 1=[arr[o3]]:=by
       rw[List.drop_zero,List.take_take,Nat.min_eq_left (by omega)]
       rw[List.drop_eq_getElem_cons (by omega)]
       simp
      rw[this] at y3
      simp only[List.cons.injEq] at y3
      obtain⟨rfl,_⟩:=y3
      simp only[okV] at y4
      rcases y4 with⟨rfl,_,ad,y5⟩ | ⟨b9,o9,cap9,arr9,el9,fz9,fs9,y5,_⟩
      ·exact⟨ad,0,y5⟩
      ·exact⟨_,cap9,y5⟩
     obtain⟨hz1,hcalls⟩:=hv
     rw[hz1,Nat.mul_one] at ho
     have hl6:l6.length=5:=by rw[All2.len k8];exact c4
     refine Calls.mono' (hcalls w b o' es.length cap m a2 a3 l6 arr[o3] hl6 hm (by rw[ho];exact hcellw)) fun u w' ⟨hu,hfr⟩=>?_
     subst hu
     have fr:=hfr ⟨w,[],Inow z w (FS++[]),fun b hb=>⟨(h.heap.imm hb).1,by simp⟩,h.heap.gok⟩ rfl rfl
     obtain⟨r3,kp3,_⟩:=h.heap.after (X':=[]) rfl (fun b hb=>by simp at hb) fr (fun x=>by simp) (fun b hb=>by simp at hb)
     have kp4:=(h.heap.keeps_refl (Stm tick rt) fun b hb=>hb).trans kp3 fun _ _ _=>trivial
     split at he7
     ·obtain⟨hv2,h8,he8⟩:=run_bind he7
      simp only[Rd.run,Option.some.injEq] at he8
      subst he8
      obtain⟨r',s1,s2,s3⟩:=stamp_ok h.vers hst h8
      rw[R.root] at s1
      simp only[Option.some.injEq] at s1;subst s1;subst s2
      have hx:okX ⟨szOf E,w.heap,Inow z w (FS++[]),rt,gh⟩ (.ref d' ro.hver (path++[(c,m)]) 0 es2.length) arr[o3]:=⟨hslice,href⟩
      exact⟨gh,FS,r3,kp4,kp4.x (t:=.ref d' ro.hver (path++[(c,m)]) 0 es2.length) s3 hx,s3⟩
     ·obtain⟨r9,y1,y2,y3⟩:=run_root he7
      simp only[Rd.run,Option.some.injEq] at y3
      subst y3
      have hx:okX ⟨szOf E,w.heap,Inow z w (FS++[]),rt,gh⟩ (.ref d' ver [] r9.cells.length es2.length) arr[o3]:=by
       refine⟨hslice,fun r hr _ cs vs ad hloc e8 es8 hce _=>?_⟩
       simp only[loc,Option.some.injEq,Prod.mk.injEq] at hloc
       obtain⟨rfl,_,_⟩:=hloc
       have hr:lk rt d'=some r:=hr
       rw[y1] at hr
       simp only[Option.some.injEq] at hr
       subst hr
       simp at hce
      exact⟨gh,FS,r3,kp4,kp4.x (t:=.ref d' ver [] r9.cells.length es2.length) hst hx,hst⟩
    ·simp[Rd.run] at he7
   ·simp[Rd.run] at he6
  ·simp[Rd.run] at he
 ·simp[Rd.run] at he
theorem callX_ok (ht:TiOk E) (h:Here E z n tick fr rt gh w FS a) (hcall:∀ f args r,call f args=some r→Sound E f args r) {me f:FuncId} {tys:List TypeId} {ts:List T} {us:List Value}
  (he:(callEff E call me d tick f tys ts).run rt=some e) (hd:EffOk tick rt d e) (hk:All2 (okX ⟨szOf E,w.heap,Inow z w (FS++[]),rt,gh⟩) ts us) (hs:∀ t,t∈ts→stX (Stm tick rt) t):
  Calls E.P f us.toArray w fun | .returned u,w'=>Done E z tick rt (rtOf tick rt d e) gh w FS e.val u w' | _,_=>False:=by
 unfold callEff at he
 split at he
 ·rename_i v hv
  have hsnd:∃ args r,call f args=some r:=by
   unfold viewEff at he
   split at he
   ·rename_i r hr;exact⟨_,r,hr⟩
   ·simp[Rd.run] at he
  obtain⟨args,r,hr⟩:=hsnd
  exact viewCall_ok h ((hcall f args r hr).view v (viewOf_some hv)) he hk hs
 unfold callEff1 at he
 split at he
 ·rename_i hl;exact lend_ok h hcall hl he hk
 ·rename_i hl
  split at he
  ·exact callFar_ok ht h hcall (by simpa using hl) he hd hk hs
  ·exact call_ok ht h hcall (by simpa using hl) he hd hk hs
end call
def Enters (E : Env) (f : FuncId) : Prop := ∃ fn, E.P.funcs[f]? = some fn ∧ (fn.name == "runtime.NumGoroutine") = false ∧ fn.body.isNone = false
section call
variable {E:Env} {z:Zn} {n tick:Nat} {fr:List (Nat×T)} {rt:List (Nat×Root)} {gh:Nat→G} {w:World} {FS:List Nat} {a:Act}
variable {call:FuncId→List Arg→Option Res} {me:FuncId} {d:Nat} {ty0:TypeId} {e:Eff} {o:Oper}
theorem run_callFunc_enter {f:FuncId} (h:Enters E f) (args:Array Value):(callFunc f args).run E.P w=.ok (.enter f args) w:=by
 obtain⟨fn,h1,h2,h3⟩:=h
 have h4 : ¬ (fn.name = "runtime.NumGoroutine") := by simpa using h2
 have h5:¬ (fn.body=none):=by cases hb:fn.body<;>simp_all
 simp[callFunc,program,Sem.run,h1,h4,h5]
theorem lendEff_called {f:FuncId} {ts:List T} (he:(lendEff call f ts).run rt=some e):∃ args r,call f args=some r:=by
 unfold lendEff at he
 split at he
 ·unfold lendOne at he
  obtain⟨_,_,he1⟩:=run_bind he
  obtain⟨_,_,he2⟩:=run_bind he1
  split at he2
  ·rename_i r hr;exact⟨_,r,hr⟩
  ·simp[Rd.run] at he2
 ·unfold lendMany at he
  obtain⟨_,_,he1⟩:=run_bind he
  obtain⟨_,_,_,he2⟩:=run_root he1
  obtain⟨_,_,he3⟩:=run_bind he2
  obtain⟨_,_,he4⟩:=run_bind he3
  split at he4
  ·rename_i r hr;exact⟨_,r,hr⟩
  ·simp[Rd.run] at he4
 ·simp[Rd.run] at he
theorem callEff_called {f:FuncId} {tys:List TypeId} {ts:List T} (he:(callEff E call me d tick f tys ts).run rt=some e):∃ args r,call f args=some r:=by
 unfold callEff at he
 split at he
 ·rename_i v _
  unfold viewEff at he
  split at he
  ·rename_i r hr;exact⟨_,r,hr⟩
  ·simp[Rd.run] at he
 unfold callEff1 at he
 split at he
 ·exact lendEff_called he
 split at he
 ·unfold callFar at he
  obtain⟨l,h1,he1⟩:=run_bind he
  split at he1
  ·split at he1
   ·simp[Rd.run] at he1
   ·split at he1
    ·rename_i r hr
     exact⟨_,r,hr⟩
    ·simp[Rd.run] at he1
  ·simp[Rd.run] at he1
 unfold callEff0 at he
 obtain⟨l,h1,he1⟩:=run_bind he
 split at he1
 ·split at he1
  ·rename_i r hr
   exact⟨_,r,hr⟩
  ·simp[Rd.run] at he1
 ·simp[Rd.run] at he1
theorem op_call {c:Call} {g:Operand} (ht:TiOk E) (h:Here E z n tick fr rt gh w FS a) (hcall:∀ f args r,call f args=some r→Sound E f args r∧Enters E f) (ho:o.op=.call c) (hc:c.callee=.value g) (hd:EffOk tick rt d e)
  (he:(evOp E call me (St.val fr) tick d ty0 (.call c)).run rt=some e):
  Says E z tick rt gh w FS d e (execOp a.eval o):=by
 simp only[evOp,hc] at he
 obtain⟨tg,h1,he1⟩:=run_bind he
 obtain⟨ts,h2,he2⟩:=run_bind he1
 clear he he1
 have hg:=run_of h1
 clear h1
 obtain⟨k1,k2⟩:=h.frame.val hg
 obtain⟨a1,a2⟩:=args_ok h.frame h2
 have fin:∀ {f:FuncId} {caps:List Value} {tcaps:List T},a.eval g=.func (.func f) #[] caps.toArray→All2 (okX ⟨szOf E,w.heap,Inow z w (FS++[]),rt,gh⟩) tcaps caps→(∀ t,t∈tcaps→stX (Stm tick rt) t)→
   (callEff E call me d tick f c.argTypes.toList (ts++tcaps)).run rt=some e→Says E z tick rt gh w FS d e (execOp a.eval o):=by
  intro f caps tcaps hv hk hs hce
  obtain⟨args,r,hr⟩:=callEff_called hce
  have hrun:(execOp a.eval o).run E.P w=.ok (.enter f (c.args.map a.eval++caps.toArray)) w:=by
   simp only[execOp,ho,resolve,hc,hv,Deferred.ofValue,Sem.run_bind,Sem.run_pure,Result.andThen_ok,invoke,Array.empty_append]
   exact run_callFunc_enter (hcall f args r hr).2 _
  unfold Says
  rw[hrun]
  have hres:=callX_ok (us:=c.args.toList.map a.eval++caps) ht h (fun f args r hr=>(hcall f args r hr).1) hce hd (a1.append hk) (fun t hm=>by
   rcases List.mem_append.1 hm with hm | hm
   ·exact a2 t hm
   ·exact hs t hm)
  have harr:(c.args.toList.map a.eval++caps).toArray=c.args.map a.eval++caps.toArray:=by
   apply Array.ext'
   simp
  rw[harr] at hres
  exact Calls.mono hres fun x w' hx=>by cases x<;>exact hx
 split at he2
 ·rename_i f first caps
  split at he2
  ·rename_i hcond
   simp only[Bool.and_eq_true,Array.isEmpty_iff] at hcond
   obtain⟨rfl,rfl⟩:=hcond
   exact fin (caps:=[]) (tcaps:=[]) (okX_v.1 k1) rfl (fun t hm=>by simp at hm) (by rw[List.append_nil];exact he2)
  ·simp[Rd.run] at he2
 ·rename_i f caps
  obtain⟨us,hu,hk⟩:=k1
  have:∀ {cs:List T} {us:List Value},All2 (okX0 ⟨szOf E,w.heap,Inow z w (FS++[]),rt,gh⟩) cs us→(∀ t,t∈cs→st0 (Stm tick rt) t)→All2 (okX ⟨szOf E,w.heap,Inow z w (FS++[]),rt,gh⟩) cs us∧∀ t,t∈cs→stX (Stm tick rt) t:=by
   intro cs
   induction cs with
   | nil=>intro us h _;exact⟨h,fun t ht=>by simp at ht⟩
   | cons c cs ih=>
    intro us h hs
    obtain⟨b,bs,rfl,q1,q2⟩:=h
    obtain⟨m1,m2⟩:=lift02 q1 (hs c (by simp))
    obtain⟨m3,m4⟩:=ih q2 fun t ht=>hs t (by simp[ht])
    refine⟨⟨b,bs,rfl,m1,m3⟩,fun t ht=>?_⟩
    rcases List.mem_cons.1 ht with rfl | ht
    ·exact m2
    ·exact m4 t ht
  obtain⟨m1,m2⟩:=this hk k2
  exact fin hu m1 m2 he2
 ·simp[Rd.run] at he2
end call
section all
variable {E:Env} {z:Zn} {n tick:Nat} {fr:List (Nat×T)} {rt:List (Nat×Root)} {gh:Nat→G} {w:World} {FS:List Nat} {a:Act}
variable {call:FuncId→List Arg→Option Res} {me:FuncId} {d:Nat} {e:Eff} {o:Oper}
theorem evOp_ok (ht:TiOk E) (h:Here E z n tick fr rt gh w FS a) (hcall:∀ f args r,call f args=some r→Sound E f args r∧Enters E f) (hd:EffOk tick rt d e)
  (he:(evOp E call me (St.val fr) tick d o.type o.op).run rt=some e):Says E z tick rt gh w FS d e (execOp a.eval o):=by
 cases hop:o.op<;>rw[hop] at he
 case move x=>exact op_move h hop he
 case assign x=>exact op_assign h hop hd he
 case pick c x y=>exact op_pick h hop he
 case alloc ty=>exact op_alloc ht h hop hd he
 case box ty x=>exact op_box h hop hd he
 case build ty ps=>exact op_build ht h hop hd he
 case buildSlice ty k ps=>exact op_buildSlice ht h hop hd he
 case load ty x=>exact op_load ht h hop he
 case store ty p x=>exact op_store ht h hop hd he
 case nilCheck x=>exact op_nilCheck h hop he
 case binOp op ty x y cs=>exact op_binOp ht h hop he
 case unOp op ty x=>exact op_unOp h hop he
 case makeSlice ty x y=>exact op_makeSlice ht h hop hd he
 case fieldAddr ty x f=>exact op_fieldAddr ht h hop he
 case field ty x f=>exact op_field ht h hop he
 case indexAddr ty x y=>
  cases hg:globRows E ty x with
  | some rows=>exact op_indexAddr_glob ht h hop he hg
  | none=>exact op_indexAddr ht h hop he hg
 case index ty x y=>exact op_index h hop he
 case extract x k=>exact op_extract h hop he
 case slice ty x lo hi mx=>
  cases hg:globOf E ty x lo hi mx with
  | some t=>exact op_slice_glob ht h hop he hg
  | none=>
  cases hm:mx with
  | none=>
   subst hm
   by_cases hr:∃ d' ver path c n,St.val fr x=some (.ref d' ver path c n)
   ·obtain⟨d',ver,path,c,n,hr⟩:=hr
    exact op_slice_take ht h hop hd he hg hr
   ·exact op_slice_quiet ht h hop he rfl hg fun d' ver path c n h1=>hr ⟨d',ver,path,c,n,h1⟩
  | some m=>exact op_slice_clip ht h hop hd he hg (by rw[hm];simp)
 case convert src dst x=>
  by_cases hs:∃ s i el,St.val fr x=some (.v (.string s))∧E.ti dst=some i∧i.elem=some el
  ·obtain⟨s,i,el,h1,h2,h3⟩:=hs
   exact op_bytes ht h hop hd he h1 h2 h3
  ·exact op_convert_quiet h hop he fun s h1 i h2=>by
    cases h3:i.elem with
    | none=>rfl
    | some el=>exact absurd ⟨s,i,el,h1,h2,h3⟩ hs
 case makeFunc fn first caps=>
  cases fn with
  | func f=>exact op_makeFunc h hop he
  | _=>simp[evOp,Rd.run] at he
 case call c=>
  cases hc:c.callee with
  | value g=>exact op_call ht h hcall hop hc hd he
  | invoke r m=>simp[evOp,hc,Rd.run] at he
  | builtin b=>
   cases b
   case len=>exact op_len ht h hop hc he
   case append=>exact op_append ht h hop hc hd he
   case cap=>exact op_minmax (f:=Builtin.cap_) h hop hc (fun _ _ _=>rfl) (by simpa only[evOp,hc] using he)
   case min=>exact op_minmax (f:=Builtin.min_) h hop hc (fun _ _ _=>rfl) (by simpa only[evOp,hc] using he)
   case max=>exact op_minmax (f:=Builtin.max_) h hop hc (fun _ _ _=>rfl) (by simpa only[evOp,hc] using he)
   all_goals simp[evOp,hc,Rd.run] at he
 all_goals simp[evOp,Rd.run] at he
end all
theorem Vers_setCell {tick rt s} (h:Vers tick rt):Vers tick (setCell tick rt s):=by
 intro d r hr
 unfold setCell at hr
 cases hs:lk rt s.d with
 | none=>rw[hs] at hr;exact h d r hr
 | some r1=>
  rw[hs] at hr
  by_cases hd:d=s.d
  ·subst hd
   rw[lk_up_self] at hr
   simp only[Option.some.injEq] at hr;subst hr
   have:=h _ _ hs
   show r1.ver≤(if s.hdr then nxt tick r1 else r1.hver)∧(if s.hdr then nxt tick r1 else r1.hver)≤tick+1∧r1.ver≤tick
   unfold nxt
   split<;>(try split)<;>omega
  ·rw[lk_up_ne _ _ _ _ hd] at hr
   exact h d r hr
theorem Vers_setCells {tick}:∀ {ss rt},Vers tick rt→Vers tick (setCells tick rt ss)
 | [],_,h=>h
 | s::ss,rt,h=>by simp only[setCells];exact Vers_setCells (Vers_setCell h)
theorem Vers_up {tick rt d r} (h:Vers tick rt) (h1:r.ver=tick) (h2:r.hver=tick):Vers tick (up rt d r):=by
 intro d' r' hr
 by_cases hd:d'=d
 ·subst hd
  rw[lk_up_self] at hr
  simp only[Option.some.injEq] at hr;subst hr
  omega
 ·rw[lk_up_ne _ _ _ _ hd] at hr
  exact h _ _ hr
structure Lnt where
 l:List (T×Value)
 c0:Nat→List T
 v0:Nat→List Value
 b0:Nat→Option Blk
def Spine (sz:TypeId→Nat) (h h0:Array Obj) (rt:List (Nat×Root)) (gh:Nat→G) (L:Lnt):Prop:=
 (∀ d r,lk rt d=some r→r.hver=0→skL sz h h0 r.cells (L.c0 d) (gh d).vals (L.v0 d))∧∀ d r,lk rt d=some r→r.ver=0→(gh d).blk=L.b0 d
structure At (E:Env) (z:Zn) (L:Lnt) (st:St) (gh:Nat→G) (w:World) (FS:List Nat) (a:Act):Prop extends Here E z st.n st.tick st.fr st.rt gh w FS a where
 srt:Srt st.fr
 lent:∀ p,p∈L.l→okX ⟨szOf E,w.heap,Inow z w (FS++[]),st.rt,gh⟩ p.1 p.2∧stX (Stm st.tick st.rt) p.1
 shape:∀ p,p∈L.l→∃ i,p.1=.ptr i 0 [] 0
 tk:0<st.tick
 spine:Spine (szOf E) w.heap z.w0.heap st.rt gh L
theorem spine_step {sz:TypeId→Nat} {h h' h0:Array Obj} {I I':Nat→Prop} {rt rt':List (Nat×Root)} {gh gh':Nat→G} {tick:Nat} {L:Lnt} (kp:Keeps ⟨sz,h,I,rt,gh⟩ ⟨sz,h',I',rt',gh'⟩ (Stm tick rt)) (ht:0<tick)
  (hs:Spine sz h h0 rt gh L):Spine sz h' h0 rt' gh' L:=by
 refine⟨fun d r hr hv=>?_,fun d r hr hv=>?_⟩
 ·obtain⟨r0,g1,g2,_,g4⟩:=kp.hdr d 0 r ⟨by omega,fun he=>by omega⟩ hr hv
  exact skL_trans g4 (hs.1 d r0 g1 g2)
 ·obtain⟨r0,g1,g2,g3⟩:=kp.top d 0 r ⟨by omega,fun he=>by omega⟩ hr hv
  exact g3.trans (hs.2 d r0 g1 g2)
theorem Act.put_size {a:Act} {dst:Option Tmp} {u:Value}:(a.put dst u).tmps.size=a.tmps.size:=by
 cases dst<;>simp[Act.put]
theorem Act.put_def {a:Act} {dst:Option Tmp} {u:Value}:(a.put dst u).defers=a.defers:=by
 cases dst<;>rfl
theorem FRel.put {x S n fr a} (f:FRel x S n fr a) {d:Nat} {t:T} {u:Value} (hd:d<n) (h1:okX x t u) (h2:stX S t):FRel x S n (up fr d t) (a.put (some d) u):=by
 refine⟨by rw[Act.put_size];exact f.size,by rw[Act.put_def];exact f.defers,fun d' t' hl=>?_⟩
 by_cases hdd:d'=d
 ·subst hdd
  rw[lk_up_self] at hl
  simp only[Option.some.injEq] at hl;subst hl
  refine⟨u,?_,h1,h2⟩
  simp only[Act.put]
  rw[Array.getElem?_setIfInBounds_self_of_lt (by rw[f.size];exact hd)]
 ·rw[lk_up_ne _ _ _ _ hdd] at hl
  obtain⟨u',g1,g2⟩:=f.tmp d' t' hl
  refine⟨u',?_,g2⟩
  simp only[Act.put]
  rw[Array.getElem?_setIfInBounds_ne (Ne.symm hdd)]
  exact g1
section one
variable {E:Env} {z:Zn} {L:Lnt} {st st':St} {gh:Nat→G} {w:World} {FS:List Nat} {a:Act}
theorem apply_okP {Q:(Nat→G)→Prop} (h:At E z L st gh w FS a) {dst:Option Tmp} {e:Eff} {u:Value} {w':World} (hap:st.apply dst e=some st')
  (hd:DoneP Q E z st.tick st.rt (rtOf st.tick st.rt (dst.getD 0) e) gh w FS e.val u w'):∃ gh' FS',Q gh'∧At E z L st' gh' w' FS' (a.put dst u):=by
 obtain⟨gh',FS',hQ,d1,d2,d3,d4⟩:=hd
 unfold St.apply at hap
 split at hap
 ·cases dst with
  | none=>
   simp only at hap
   split at hap
   ·rename_i hn
    simp only[Option.some.injEq] at hap;subst hap
    have hr:rtOf st.tick st.rt (Option.getD none 0) e=setCells st.tick st.rt e.sets:=by
     unfold rtOf
     cases hr:e.root with
     | none=>rfl
     | some r=>rw[hr] at hn;simp at hn
    rw[hr] at d1 d2
    refine⟨gh',FS',hQ,⟨d1,Vers_setCells h.vers,⟨h.frame.size,h.frame.defers,fun d t hl=>?_⟩⟩,h.srt,fun p hp=>⟨d2.x (h.lent p hp).2 (h.lent p hp).1,stX_mono (fun a b=>Stm_sets a b) (h.lent p hp).2⟩,h.shape,h.tk,spine_step d2 h.tk h.spine⟩
    obtain⟨u',g1,g2,g3⟩:=h.frame.tmp d t hl
    exact⟨u',g1,d2.x g3 g2,stX_mono (fun a b=>Stm_sets a b) g3⟩
   ·simp at hap
  | some d=>
   simp only[Option.getD_some] at d1 d2 d3 d4
   simp only at hap
   split at hap
   ·rename_i hdn
    split at hap
    ·rename_i hr
     simp only[Option.some.injEq] at hap;subst hap
     simp only[rtOf,hr] at d1 d2 d3 d4
     refine⟨gh',FS',hQ,⟨d1,Vers_setCells h.vers,?_⟩,up_srt h.srt,fun p hp=>⟨d2.x (h.lent p hp).2 (h.lent p hp).1,stX_mono (fun a b=>Stm_sets a b) (h.lent p hp).2⟩,h.shape,h.tk,spine_step d2 h.tk h.spine⟩
     refine FRel.put (n:=st.n) (a:=a) ⟨h.frame.size,h.frame.defers,fun d' t hl=>?_⟩ hdn d3 d4
     obtain⟨u',g1,g2,g3⟩:=h.frame.tmp d' t hl
     exact⟨u',g1,d2.x g3 g2,stX_mono (fun a b=>Stm_sets a b) g3⟩
    ·rename_i r hr
     split at hap
     ·rename_i hnew
      simp only[Bool.and_eq_true,beq_iff_eq] at hnew
      obtain⟨_,v1,v2⟩:=hnew
      simp only[Option.some.injEq] at hap;subst hap
      simp only[rtOf,hr] at d1 d2 d3 d4
      refine⟨gh',FS',hQ,⟨d1,Vers_up (Vers_setCells h.vers) v1 v2,?_⟩,up_srt h.srt,fun p hp=>⟨d2.x (h.lent p hp).2 (h.lent p hp).1,stX_mono (fun a b hab=>(Stm_new v1).1 a b (Stm_sets a b hab)) (h.lent p hp).2⟩,h.shape,h.tk,spine_step d2 h.tk h.spine⟩
      refine FRel.put (n:=st.n) (a:=a) ⟨h.frame.size,h.frame.defers,fun d' t hl=>?_⟩ hdn d3 d4
      obtain⟨u',g1,g2,g3⟩:=h.frame.tmp d' t hl
      exact⟨u',g1,d2.x g3 g2,stX_mono (fun a b hab=>(Stm_new v1).1 a b (Stm_sets a b hab)) g3⟩
     ·simp at hap
   ·simp at hap
 ·simp at hap
theorem apply_ok (h:At E z L st gh w FS a) {dst:Option Tmp} {e:Eff} {u:Value} {w':World} (hap:st.apply dst e=some st')
  (hd:Done E z st.tick st.rt (rtOf st.tick st.rt (dst.getD 0) e) gh w FS e.val u w'):∃ gh' FS',At E z L st' gh' w' FS' (a.put dst u):=by
 obtain⟨gh',FS',hd⟩:=hd
 obtain⟨gh',FS',_,h1⟩:=apply_okP (Q:=fun _=>True) h hap ⟨gh',FS',trivial,hd⟩
 exact⟨gh',FS',h1⟩
theorem apply_eff {dst:Option Tmp} {e:Eff} (hap:st.apply dst e=some st'):EffOk st.tick st.rt (dst.getD 0) e:=by
 unfold St.apply at hap
 split at hap
 ·rename_i h12
  simp only[Bool.and_eq_true] at h12
  refine⟨h12.1,h12.2,fun r hr=>?_⟩
  cases dst with
  | none=>
   simp only at hap
   split at hap
   ·rename_i hn;rw[hr] at hn;simp at hn
   ·simp at hap
  | some d=>
   simp only at hap
   split at hap
   ·split at hap
    ·rename_i hr';rw[hr] at hr';simp at hr'
    ·split at hap
     ·rename_i hnew
      simp only[Bool.and_eq_true] at hnew
      exact hnew.1
     ·simp at hap
   ·simp at hap
 ·simp at hap
theorem wanted_ok {x:Cx} {S n} {ops:Array Oper} {o:Oper} {fr:List (Nat×T)} {b:Bool} (f:FRel x S n fr a) (h:wanted ops.toList fr o.guard=some b):
  Region.wanted o (yielded ops a.tmps)=b:=by
 unfold wanted at h
 unfold Region.wanted
 split at h
 ·rename_i hg;rw[hg];simpa using h
 ·rename_i j v hg
  rw[hg]
  show (yielded ops a.tmps j==some v)=b
  rw[Array.getElem?_toList] at h
  unfold yielded
  split at h
  ·simp at h
  ·rename_i t ht
   rw[ht]
   split at h
   ·rename_i val hl
    obtain⟨u,g1,g2,_⟩:=f.tmp t _ hl
    have:=okX_v.1 g2
    subst this
    simp only[Option.bind_some,g1]
    unfold wantV at h
    split at h
    ·rename_i b'
     simp only[Option.some.injEq] at h;subst h
     cases b'<;>cases v<;>rfl
    ·simp only[Option.some.injEq] at h;subst h
     rfl
    ·simp at h
   ·simp at h
theorem evOne_ok {call:FuncId→List Arg→Option Res} {me:FuncId} {ops:Array Oper} {i:Nat} {o:Oper} {K:Act→World→Prop} {Q:Exit→Act→World→Prop}
  (ht:TiOk E) (hcall:∀ f args r,call f args=some r→Sound E f args r∧Enters E f) (h:At E z L st gh w FS a)
  (he:evOne E call me ops.toList st o=some st') (hi:ops[i]?=some o) (hK:∀ gh' w' FS' a',At E z L st' gh' w' FS' a'→K a' w'):wpOp E.P ops Q i K a w:=by
 unfold evOne at he
 unfold wpOp
 rw[hi]
 simp only
 split at he
 ·rename_i b hw
  cases b with
  | true=>
   unfold gif at he
   rw[if_pos rfl] at he
   rw[wanted_ok h.frame hw,if_pos rfl]
   split at he
   ·rename_i e hev
    have hs:=evOp_ok ht h.toHere hcall (apply_eff he) hev
    refine .inl ?_
    unfold Oper.wp
    unfold Says Upon at hs
    revert hs
    generalize (execOp a.eval o).run E.P w=r
    intro hs
    split at hs
    ·rename_i u w'
     obtain⟨gh',FS',h1⟩:=apply_ok h he hs
     exact hK _ _ _ _ h1
    ·rename_i w'
     obtain⟨gh',FS',h1⟩:=apply_ok h he hs
     exact hK _ _ _ _ h1
    ·rename_i f args w'
     simp only[Oper.upon]
     refine Calls.mono hs fun x w'' hx=>?_
     cases x with
     | returned u=>
      obtain⟨gh',FS',h1⟩:=apply_ok h he hx
      exact hK _ _ _ _ h1
     | panicked c=>exact hx.elim
     | outgrown=>exact hx.elim
    ·exact hs.elim
   ·simp at he
  | false=>
   unfold gif at he
   rw[if_neg (by simp)] at he
   simp only at he
   rw[wanted_ok h.frame hw,if_neg (by simp)]
   obtain⟨gh',FS',h1⟩:=apply_ok h he h.toHere.done_val
   exact hK _ _ _ _ h1
 ·simp at he
theorem evOne_okS {call:FuncId→List Arg→Option Res} {me:FuncId} {ops:Array Oper} {i:Nat} {o:Oper} {K:Act→World→Prop} {Q:Exit→Act→World→Prop} {ty:TypeId} {p x:Operand}
  (ht:TiOk E) (h:At E z L st gh w FS a) (ho:o.op=.store ty p x) (hg:o.guard=none) (hdst:o.dst=none)
  (he:evOne E call me ops.toList st o=some st') (hi:ops[i]?=some o) (hK:∀ gh' w' FS' a',Stands st.fr p gh gh'→a'.tmps=a.tmps→At E z L st' gh' w' FS' a'→K a' w'):wpOp E.P ops Q i K a w:=by
 unfold evOne at he
 unfold wpOp
 rw[hi]
 simp only
 have hw:wanted ops.toList st.fr o.guard=some true:=by rw[hg];rfl
 rw[hw] at he
 simp only[gif,if_true] at he
 rw[wanted_ok h.frame hw,if_pos rfl]
 split at he
 ·rename_i e hev
  rw[ho] at hev
  obtain⟨w',hr,hd⟩:=op_storeP ht h.toHere ho (apply_eff he) hev
  obtain⟨gh',FS',hS,h1⟩:=apply_okP h he hd
  refine .inl ?_
  unfold Oper.wp
  rw[hr]
  exact hK _ _ _ _ hS (by rw[hdst];rfl) h1
 ·simp at he
end one
inductive Part {α:Type}:List (Nat×α)→List (Nat×α)→Prop
 | nil:Part [] []
 | drop {p l m}:Part l m→Part l (p::m)
 | keep {p l m}:Part l m→Part (p::l) (p::m)
theorem Part.rfl' {α:Type}:∀ (l:List (Nat×α)),Part l l
 | []=>.nil
 | _::l=>.keep (Part.rfl' l)
theorem Part.mem {α:Type} {l m:List (Nat×α)} (h:Part l m):∀ p,p∈l→p∈m:=by
 induction h with
 | nil=>intro p h;exact h
 | drop _ ih=>intro p h;exact List.mem_cons_of_mem _ (ih p h)
 | keep _ ih=>
  intro p h
  rcases List.mem_cons.1 h with rfl | h
  ·simp
  ·exact List.mem_cons_of_mem _ (ih p h)
theorem Part.trans {α:Type} {a b c:List (Nat×α)} (h1:Part a b) (h2:Part b c):Part a c:=by
 induction h2 generalizing a with
 | nil=>exact h1
 | drop _ ih=>exact .drop (ih h1)
 | keep _ ih=>
  cases h1 with
  | drop h1=>exact .drop (ih h1)
  | keep h1=>exact .keep (ih h1)
theorem Part.srt {α:Type} {l m:List (Nat×α)} (h:Part l m) (hs:Srt m):Srt l:=by
 induction h with
 | nil=>trivial
 | drop _ ih=>exact ih hs.2
 | keep h ih=>exact⟨fun q hq=>hs.1 q (h.mem q hq),ih hs.2⟩
theorem lk_of_mem {α:Type}:∀ {l:List (Nat×α)} {d:Nat} {x:α},Srt l→(d,x)∈l→lk l d=some x
 | [],d,x,_,h=>by simp at h
 | (k,y)::r,d,x,hs,h=>by
  simp only[lk]
  rcases List.mem_cons.1 h with h | h
  ·simp only[Prod.mk.injEq] at h;obtain⟨rfl,rfl⟩:=h;simp
  ·have:k<d:=hs.1 _ h
   rw[if_neg (by omega)]
   exact lk_of_mem hs.2 h
theorem Part.lk {α:Type} {l m:List (Nat×α)} (h:Part l m) (hs:Srt m) {d:Nat} {x:α} (hl:lk l d=some x):TM.lk m d=some x:=
 lk_of_mem hs (h.mem _ (lk_mem hl))
theorem only_part {α:Type} (ds:List Nat):∀ (l:List (Nat×α)),Part (only ds l) l
 | []=>.nil
 | (k,x)::r=>by
  simp only[only]
  split
  ·exact .keep (only_part ds r)
  ·exact .drop (only_part ds r)
theorem unspent_part:∀ (l:List (Nat×Root)),Part (unspent l) l
 | []=>.nil
 | (k,x)::r=>by
  simp only[unspent]
  split
  ·exact .drop (unspent_part r)
  ·exact .keep (unspent_part r)
theorem okRts_fewer {sz h I gh} {rt' rt:List (Nat×Root)} (hp:Part rt' rt):∀ {fs},okRts sz h I gh rt fs→∃ fs',okRts sz h I gh rt' fs'∧∀ x,fs'.count x≤fs.count x:=by
 induction hp with
 | nil=>intro fs h;exact⟨fs,h,fun _=>Nat.le_refl _⟩
 | drop _ ih=>
  intro fs h
  obtain⟨f1,f2,rfl,_,h2⟩:=h
  obtain⟨fs',g1,g2⟩:=ih h2
  refine⟨fs',g1,fun x=>?_⟩
  have:=g2 x
  simp only[List.count_append]
  omega
 | keep _ ih=>
  intro fs h
  obtain⟨f1,f2,rfl,h1,h2⟩:=h
  obtain⟨fs',g1,g2⟩:=ih h2
  refine⟨f1++fs',⟨f1,fs',rfl,h1,g1⟩,fun x=>?_⟩
  have:=g2 x
  simp only[List.count_append]
  omega
theorem stampOf_le (r:Root):stampOf r≤1:=by unfold stampOf;split<;>omega
theorem hvOf_le (r:Root):hvOf r≤1:=by unfold hvOf;split<;>omega
theorem lk_reRt:∀ {rt:List (Nat×Root)} {d:Nat} {r:Root},lk (reRt rt) d=some r→∃ r0,lk rt d=some r0∧r={ r0 with ver:=stampOf r0,hver:=hvOf r0 }
 | [],d,r,h=>by simp[reRt,lk] at h
 | (k,x)::rt,d,r,h=>by
  simp only[reRt,lk] at h ⊢
  split at h
  ·rename_i hk
   simp only[Option.some.injEq] at h
   exact⟨x,by rw[if_pos hk],h.symm⟩
  ·rename_i hk
   obtain⟨r0,h1,h2⟩:=lk_reRt h
   exact⟨r0,by rw[if_neg hk];exact h1,h2⟩
theorem lk_reFr {rt:List (Nat×Root)}:∀ {fr:List (Nat×T)} {d:Nat} {t:T},lk (reFr rt fr) d=some t→∃ t0,lk fr d=some t0∧t=reX rt t0
 | [],d,t,h=>by simp[reFr,lk] at h
 | (k,x)::fr,d,t,h=>by
  simp only[reFr,lk] at h ⊢
  split at h
  ·rename_i hk
   simp only[Option.some.injEq] at h
   exact⟨x,by rw[if_pos hk],h.symm⟩
  ·rename_i hk
   obtain⟨t0,h1,h2⟩:=lk_reFr h
   exact⟨t0,by rw[if_neg hk];exact h1,h2⟩
theorem reRt_mem:∀ {rt:List (Nat×Root)} {p},p∈reRt rt→∃ q,q∈rt∧q.1=p.1
 | [],p,h=>by simp[reRt] at h
 | (k,x)::rt,p,h=>by
  simp only[reRt] at h
  rcases List.mem_cons.1 h with rfl | h
  ·exact⟨(k,x),by simp,rfl⟩
  ·obtain⟨q,h1,h2⟩:=reRt_mem h
   exact⟨q,by simp[h1],h2⟩
theorem reRt_srt:∀ {rt:List (Nat×Root)},Srt rt→Srt (reRt rt)
 | [],h=>h
 | (k,x)::rt,h=>⟨fun p hp=>by obtain⟨q,h1,h2⟩:=reRt_mem hp;rw[←h2];exact h.1 q h1,reRt_srt h.2⟩
theorem reFr_mem {rt:List (Nat×Root)}:∀ {fr:List (Nat×T)} {p},p∈reFr rt fr→∃ q,q∈fr∧q.1=p.1
 | [],p,h=>by simp[reFr] at h
 | (k,x)::fr,p,h=>by
  simp only[reFr] at h
  rcases List.mem_cons.1 h with rfl | h
  ·exact⟨(k,x),by simp,rfl⟩
  ·obtain⟨q,h1,h2⟩:=reFr_mem h
   exact⟨q,by simp[h1],h2⟩
theorem reFr_srt {rt:List (Nat×Root)}:∀ {fr:List (Nat×T)},Srt fr→Srt (reFr rt fr)
 | [],h=>h
 | (k,x)::fr,h=>⟨fun p hp=>by obtain⟨q,h1,h2⟩:=reFr_mem hp;rw[←h2];exact h.1 q h1,reFr_srt h.2⟩
theorem reRt_ok {sz h I gh}:∀ {rt:List (Nat×Root)} {fs},okRts sz h I gh rt fs→okRts sz h I gh (reRt rt) fs
 | [],fs,hk=>hk
 | (k,x)::rt,fs,hk=>by
  obtain⟨f1,f2,rfl,h1,h2⟩:=hk
  exact⟨f1,f2,rfl,h1,reRt_ok h2⟩
section re
variable {sz:TypeId→Nat} {h:Array Obj} {I:Nat→Prop} {rt:List (Nat×Root)} {gh:Nat→G}
theorem stm_re {d s:Nat} (hs:s≤1):Stm 2 (reRt rt) d s:=⟨by omega,fun he=>by omega⟩
theorem re0_ok {t:T} {u:Value} (hk:okX0 ⟨sz,h,I,rt,gh⟩ t u):okX0 ⟨sz,h,I,reRt rt,gh⟩ (re0 rt t) u∧st0 (Stm 2 (reRt rt)) (re0 rt t):=by
 have dead:okX0 ⟨sz,h,I,reRt rt,gh⟩ .dead u∧st0 (Stm 2 (reRt rt)) .dead:=⟨okX0_dead,trivial⟩
 cases t with
 | ref d v p c n=>
  simp only[re0]
  split
  ·rename_i r hl
   split
   ·rename_i hv
    refine⟨⟨hk.1,fun r' hr' _=>?_⟩,stm_re (hvOf_le r)⟩
    obtain⟨r0,hl0,rfl⟩:=lk_reRt hr'
    rw[hl] at hl0;simp only[Option.some.injEq] at hl0;subst hl0
    exact hk.2 r hl hv
   ·exact dead
  ·exact dead
 | ptr d v p o=>
  cases p with
  | nil=>
   simp only[re0]
   split
   ·rename_i r hl
    split
    ·rename_i hv
     refine⟨⟨hk.1,fun r' hr' _=>?_⟩,stm_re (stampOf_le r)⟩
     obtain⟨r0,hl0,rfl⟩:=lk_reRt hr'
     rw[hl] at hl0;simp only[Option.some.injEq] at hl0;subst hl0
     exact hk.2 r hl hv
    ·exact dead
   ·exact dead
  | cons q qs=>
   simp only[re0]
   split
   ·rename_i r hl
    split
    ·rename_i hv
     refine⟨⟨hk.1,fun r' hr' _=>?_⟩,stm_re (hvOf_le r)⟩
     obtain⟨r0,hl0,rfl⟩:=lk_reRt hr'
     rw[hl] at hl0;simp only[Option.some.injEq] at hl0;subst hl0
     exact hk.2 r hl hv
    ·exact dead
   ·exact dead
 | bx d v p o=>
  obtain⟨b,arr,el,fz,u',q1,q2,q3,q4,q5,q6⟩:=hk
  simp only[re0]
  split
  ·rename_i s hs
   unfold reP at hs
   split at hs
   ·split at hs
    ·rename_i r hl
     split at hs
     ·rename_i hv
      simp only[Option.some.injEq] at hs;subst hs
      refine⟨⟨b,arr,el,fz,u',q1,q2,q3,q4,q5,fun r' hr' _=>?_⟩,stm_re (stampOf_le r)⟩
      obtain⟨r0,hl0,rfl⟩:=lk_reRt hr'
      rw[hl] at hl0;simp only[Option.some.injEq] at hl0;subst hl0
      exact q6 r hl hv
     ·simp at hs
    ·simp at hs
   ·split at hs
    ·rename_i r hl
     split at hs
     ·rename_i hv
      simp only[Option.some.injEq] at hs;subst hs
      refine⟨⟨b,arr,el,fz,u',q1,q2,q3,q4,q5,fun r' hr' _=>?_⟩,stm_re (hvOf_le r)⟩
      obtain⟨r0,hl0,rfl⟩:=lk_reRt hr'
      rw[hl] at hl0;simp only[Option.some.injEq] at hl0;subst hl0
      exact q6 r hl hv
     ·simp at hs
    ·simp at hs
  ·exact dead
 | _=>exact⟨hk,trivial⟩
theorem All2.map_l {α β γ:Type} {R:α→β→Prop} {Q:γ→β→Prop} {f:α→γ}:∀ {as:List α} {bs:List β},(∀ a b,a∈as→R a b→Q (f a) b)→All2 R as bs→All2 Q (as.map f) bs
 | [],bs,_,h=>h
 | a::as,bs,hi,h=>by
  obtain⟨b,bs',rfl,h1,h2⟩:=h
  exact⟨b,bs',rfl,hi a b (by simp) h1,All2.map_l (fun a b ha=>hi a b (by simp[ha])) h2⟩
theorem All2.left {α β:Type} {R:α→β→Prop}:∀ {as:List α} {bs:List β},All2 R as bs→∀ a,a∈as→∃ b,R a b
 | [],bs,_,a,h=>by simp at h
 | x::as,bs,hk,a,h=>by
  obtain⟨b,bs',rfl,h1,h2⟩:=hk
  rcases List.mem_cons.1 h with rfl | h
  ·exact⟨b,h1⟩
  ·exact All2.left h2 a h
theorem re1_ok {t:T} {u:Value} (hk:okX1 ⟨sz,h,I,rt,gh⟩ t u):okX1 ⟨sz,h,I,reRt rt,gh⟩ (re1 rt t) u∧st1 (Stm 2 (reRt rt)) (re1 rt t):=by
 have plain:∀ {t},(∀ cs,t≠.agg cs)→(∀ f cs,t≠.clo f cs)→okX0 ⟨sz,h,I,rt,gh⟩ t u→okX1 ⟨sz,h,I,reRt rt,gh⟩ (re0 rt t) u∧st1 (Stm 2 (reRt rt)) (re0 rt t):=fun _ _ hk=>by
  obtain⟨m1,m2⟩:=re0_ok hk
  exact lift01 m1 m2
 cases t with
 | agg cs=>
  obtain⟨us,h1,h2⟩:=hk
  refine⟨⟨us,h1,h2.map_l fun a b _ hr=>(re0_ok hr).1⟩,fun t ht=>?_⟩
  obtain⟨a,ha,rfl⟩:=List.mem_map.1 ht
  obtain⟨b,hb⟩:=h2.left a ha
  exact (re0_ok hb).2
 | clo f cs=>
  obtain⟨us,h1,h2⟩:=hk
  refine⟨⟨us,h1,h2.map_l fun a b _ hr=>(re0_ok hr).1⟩,fun t ht=>?_⟩
  obtain⟨a,ha,rfl⟩:=List.mem_map.1 ht
  obtain⟨b,hb⟩:=h2.left a ha
  exact (re0_ok hb).2
 | v a0=>exact plain (t:=.v a0) (by simp) (by simp) hk
 | tup a0=>exact plain (t:=.tup a0) (by simp) (by simp) hk
 | sl a0 a1=>exact plain (t:=.sl a0 a1) (by simp) (by simp) hk
 | own a0 a1=>exact plain (t:=.own a0 a1) (by simp) (by simp) hk
 | ref a0 a1 a2 a3 a4=>exact plain (t:=.ref a0 a1 a2 a3 a4) (by simp) (by simp) hk
 | ptr a0 a1 a2 a3=>exact plain (t:=.ptr a0 a1 a2 a3) (by simp) (by simp) hk
 | bx a0 a1 a2 a3=>exact plain (t:=.bx a0 a1 a2 a3) (by simp) (by simp) hk
 | ipt a0=>exact plain (t:=.ipt a0) (by simp) (by simp) hk
 | dead=>exact plain (t:=.dead) (by simp) (by simp) hk
 | hdr n=>exact plain (t:=.hdr n) (by simp) (by simp) hk
 | obx cs=>exact plain (t:=.obx cs) (by simp) (by simp) hk
theorem reX_ok {t:T} {u:Value} (hk:okX ⟨sz,h,I,rt,gh⟩ t u):okX ⟨sz,h,I,reRt rt,gh⟩ (reX rt t) u∧stX (Stm 2 (reRt rt)) (reX rt t):=by
 have plain:∀ {t},okX1 ⟨sz,h,I,rt,gh⟩ t u→okX ⟨sz,h,I,reRt rt,gh⟩ (re1 rt t) u∧stX (Stm 2 (reRt rt)) (re1 rt t):=fun hk=>by
  obtain⟨m1,m2⟩:=re1_ok hk
  exact lift12 m1 m2
 cases t with
 | tup cs=>
  obtain⟨us,h1,h2⟩:=hk
  refine⟨⟨us,h1,h2.map_l fun a b _ hr=>(re1_ok hr).1⟩,fun t ht=>?_⟩
  obtain⟨a,ha,rfl⟩:=List.mem_map.1 ht
  obtain⟨b,hb⟩:=h2.left a ha
  exact (re1_ok hb).2
 | v a0=>exact plain (t:=.v a0) hk
 | agg a0=>exact plain (t:=.agg a0) hk
 | clo a0 a1=>exact plain (t:=.clo a0 a1) hk
 | sl a0 a1=>exact plain (t:=.sl a0 a1) hk
 | own a0 a1=>exact plain (t:=.own a0 a1) hk
 | ref a0 a1 a2 a3 a4=>exact plain (t:=.ref a0 a1 a2 a3 a4) hk
 | ptr a0 a1 a2 a3=>exact plain (t:=.ptr a0 a1 a2 a3) hk
 | bx a0 a1 a2 a3=>exact plain (t:=.bx a0 a1 a2 a3) hk
 | ipt a0=>exact plain (t:=.ipt a0) hk
 | dead=>exact plain (t:=.dead) hk
 | hdr n=>exact plain (t:=.hdr n) hk
 | obx cs=>exact plain (t:=.obx cs) hk
end re
section strike
variable {E:Env} {z:Zn} {L:Lnt} {st:St} {gh:Nat→G} {w:World} {FS:List Nat} {a:Act}
theorem At.fewer (h:At E z L st gh w FS a) {fr':List (Nat×T)} {rt':List (Nat×Root)} {w':World} (hf:Part fr' st.fr) (hr:Part rt' st.rt)
  (hw1:w'.heap=w.heap) (hw2:w'.os=w.os) (hw3:w'.output=w.output) (hw4:w'.tape=w.tape):
  ∃ FS',At E z L ⟨st.n,reFr rt' fr',reRt rt',2⟩ gh w' FS' a:=by
 obtain⟨FS',g1,g2⟩:=okRts_fewer hr h.heap.roots
 have hm:∀ b,b∈FS'++[]→b∈FS++[]:=fun b hb=>by
  have h0:=List.count_pos_iff.2 hb
  have h1:=g2 b
  rw[←List.count_pos_iff]
  simp only[List.count_append] at *
  omega
 have hI:∀ b,Inow z w (FS++[]) b→Inow z w' (FS'++[]) b:=fun b hb=>
  h.heap.imm_grow (by rw[hw1];exact Nat.le_refl _) (fun b hb=>.inl (hm b hb)) hb
 have kp:Keeps ⟨szOf E,w.heap,Inow z w (FS++[]),st.rt,gh⟩ ⟨szOf E,w'.heap,Inow z w' (FS'++[]),rt',gh⟩ (Stm st.tick st.rt):=by
  refine⟨rfl,fun b hb=>⟨hI b hb,by show w'.heap[b]?=w.heap[b]?;rw[hw1]⟩,fun d s r' _ h1 h2=>⟨r',hr.lk h.heap.srt h1,h2,rfl,?_⟩,fun d s r' _ h1 h2=>⟨r',hr.lk h.heap.srt h1,h2,rfl⟩⟩
  show skL (szOf E) w'.heap w.heap r'.cells r'.cells (gh d).vals (gh d).vals
  exact skL_self h.heap.roots (fun b _=>by rw[hw1]) (hr.lk h.heap.srt h1)
 have heap1:HRel (szOf E) z rt' gh w' FS' []:=by
  refine⟨hr.srt h.heap.srt,?_,?_,?_,?_,?_⟩
  ·rw[hw1]
   exact okRts_agree ⟨fun b hb=>⟨hI b hb,rfl⟩,fun b _=>rfl⟩ g1
  ·intro x
   have:=h.heap.uniq x
   have:=g2 x
   simp only[List.count_append] at *
   omega
  ·intro b hb;rw[hw1];exact h.heap.lt b (hm b hb)
  ·intro b hb;exact h.heap.zone b (hm b hb)
  ·exact h.heap.fr.step (tot:=[]) (fun b hb=>by simp at hb) hw2 hw3 hw4 (by rw[hw1];exact Nat.le_refl _) (fun b _ _=>by rw[hw1])
 refine⟨FS',⟨⟨reRt_srt heap1.srt,reRt_ok heap1.roots,heap1.uniq,heap1.lt,heap1.zone,heap1.fr⟩,?_,h.frame.size,h.frame.defers,?_⟩,reFr_srt (hf.srt h.srt),?_,h.shape,(by show 0<2;omega),?_⟩
 ·intro d r hl
  obtain⟨r0,hl0,rfl⟩:=lk_reRt hl
  have h1:=stampOf_le r0
  have h2:=hvOf_le r0
  have h3:=(h.vers d r0 (hr.lk h.heap.srt hl0)).1
  refine⟨?_,by show hvOf r0≤2+1;omega,by show stampOf r0≤2;omega⟩
  show stampOf r0≤hvOf r0
  unfold stampOf hvOf
  split
  ·omega
  ·rw[if_neg (fun hh=>by omega)];omega
 ·intro d t hl
  obtain⟨t0,q0,rfl⟩:=lk_reFr hl
  obtain⟨u,q1,q2,q3⟩:=h.frame.tmp d t0 (hf.lk h.srt q0)
  obtain⟨m1,m2⟩:=reX_ok (kp.x q3 q2)
  exact⟨u,q1,m1,m2⟩
 ·intro p hp
  obtain⟨i,hi⟩:=h.shape p hp
  obtain⟨l1,l2⟩:=h.lent p hp
  have:=kp.x l2 l1
  rw[hi] at this ⊢
  obtain⟨k1,k2⟩:=this
  refine⟨⟨k1,fun r' hr' hv=>?_⟩,by omega,fun hx=>by simp at hx⟩
  obtain⟨r0,hl0,rfl⟩:=lk_reRt hr'
  refine k2 r0 hl0 ?_
  simp only[stampOf] at hv
  split at hv
  ·assumption
  ·simp at hv
 ·have hsp:=spine_step kp h.tk h.spine
  refine⟨fun d r hl hv=>?_,fun d r hl hv=>?_⟩
  ·obtain⟨r0,hl0,rfl⟩:=lk_reRt hl
   have hv0:r0.hver=0:=by
    have:hvOf r0=0:=hv
    unfold hvOf at this
    split at this
    ·rename_i hh;exact hh
    ·simp at this
   exact hsp.1 d r0 hl0 hv0
  ·obtain⟨r0,hl0,rfl⟩:=lk_reRt hl
   have hv0:r0.ver=0:=by
    have:stampOf r0=0:=hv
    unfold stampOf at this
    split at this
    ·rename_i hh;exact hh
    ·simp at this
   exact hsp.2 d r0 hl0 hv0
theorem At.world (h:At E z L st gh w FS a) {w':World} (hw1:w'.heap=w.heap) (hw2:w'.os=w.os) (hw3:w'.output=w.output) (hw4:w'.tape=w.tape):At E z L st gh w' FS a:=by
 have e:∀ tot b,Inow z w' tot b↔Inow z w tot b:=fun tot b=>by unfold Inow;rw[hw1]
 have e':Inow z w' (FS++[])=Inow z w (FS++[]):=funext fun b=>propext (e _ b)
 refine⟨⟨⟨h.heap.srt,?_,h.heap.uniq,?_,h.heap.zone,?_⟩,h.vers,?_⟩,h.srt,by rw[e',hw1];exact h.lent,h.shape,h.tk,by rw[hw1];exact h.spine⟩
 ·rw[e',hw1];exact h.heap.roots
 ·rw[hw1];exact h.heap.lt
 ·exact h.heap.fr.step (tot:=[]) (fun b hb=>by simp at hb) hw2 hw3 hw4 (by rw[hw1];exact Nat.le_refl _) (fun b _ _=>by rw[hw1])
 ·rw[e',hw1];exact h.frame
theorem without_part {α:Type} (ds:List Nat):∀ (l:List (Nat×α)),Part (without ds l) l
 | []=>.nil
 | (k,x)::r=>by
  simp only[without]
  split
  ·exact .drop (without_part ds r)
  ·exact .keep (without_part ds r)
theorem At.without (h:At E z L st gh w FS a) (ds:List Nat):At E z L ⟨st.n,TM.without ds st.fr,st.rt,st.tick⟩ gh w FS a:=
 ⟨⟨h.heap,h.vers,h.frame.size,h.frame.defers,fun d t hl=>h.frame.tmp d t ((without_part ds st.fr).lk h.srt hl)⟩,(without_part ds st.fr).srt h.srt,h.lent,h.shape,h.tk,h.spine⟩
theorem strike_ok (h:At E z L st gh w FS a) (l:Option (List Tmp×List Tmp)):∃ FS',At E z L (strike l st) gh w FS' a:=by
 unfold strike
 cases l with
 | none=>exact h.fewer (Part.rfl' _) (unspent_part _) rfl rfl rfl rfl
 | some l=>exact h.fewer (only_part _ _) ((only_part _ _).trans (unspent_part _)) rfl rfl rfl rfl
end strike
abbrev Tch:=Bool×Nat×Option Nat
def Ag1 (p:Tch) (rt rt':List (Nat×Root)):Prop:=
 match p.2.2 with
 | some c=>(lk rt' p.2.1).map (fun r=>(r.at_ p.1,r.cells[c]?))=(lk rt p.2.1).map (fun r=>(r.at_ p.1,r.cells[c]?))
 | none=>lk rt' p.2.1=lk rt p.2.1
def Ag (t:List Tch) (rt rt':List (Nat×Root)):Prop:=∀ p,p∈t→Ag1 p rt rt'
theorem Ag1.refl {p rt}:Ag1 p rt rt:=by unfold Ag1;split<;>rfl
theorem Ag1.symm {p rt rt'} (h:Ag1 p rt rt'):Ag1 p rt' rt:=by unfold Ag1 at *;split at h<;>exact h.symm
theorem Ag1.trans {p a b c} (h:Ag1 p a b) (h':Ag1 p b c):Ag1 p a c:=by
 obtain⟨p1,p2,p3⟩:=p
 cases p3 with
 | none=>exact Eq.trans (b:=lk b p2) h' h
 | some c0=>
  simp only[Ag1] at *
  rw[h',h]
theorem Ag.symm {t rt rt'} (h:Ag t rt rt'):Ag t rt' rt:=fun p hp=>(h p hp).symm
theorem Ag.trans {t a b c} (h:Ag t a b) (h':Ag t b c):Ag t a c:=fun p hp=>(h p hp).trans (h' p hp)
theorem run_ag {α:Type} {rt rt':List (Nat×Root)}:∀ {x:Rd α},Ag (x.touched rt) rt rt'→x.run rt'=x.run rt∧x.touched rt'=x.touched rt
 | .ret _,_=>⟨rfl,rfl⟩
 | .fail,_=>⟨rfl,rfl⟩
 | .cell h d v c k,ha=>by
  have h1:=ha (h,d,some c) (by simp[Rd.touched])
  simp only[Ag1] at h1
  simp only[Rd.touched] at ha
  simp only[Rd.run,Rd.touched]
  cases hl:lk rt d with
  | none=>
   rw[hl] at h1
   cases hl':lk rt' d with
   | none=>exact⟨rfl,rfl⟩
   | some r'=>rw[hl'] at h1;simp at h1
  | some r=>
   rw[hl] at h1 ha
   cases hl':lk rt' d with
   | none=>rw[hl'] at h1;simp at h1
   | some r'=>
    rw[hl'] at h1
    simp only[Option.map_some,Option.some.injEq,Prod.mk.injEq] at h1
    simp only
    rw[h1.1,h1.2]
    simp only at ha
    by_cases hv:r.at_ h=v
    ·rw[if_pos hv,if_pos hv]
     rw[if_pos hv] at ha
     cases hc:r.cells[c]? with
     | none=>exact⟨rfl,rfl⟩
     | some t=>
      rw[hc] at ha
      have ih:=run_ag (x:=k t) (rt:=rt) (rt':=rt') fun p hp=>ha p (by simp[hp])
      simp only
      exact⟨ih.1,by rw[ih.2]⟩
    ·simp only[if_neg hv,and_self]
 | .root h d v k,ha=>by
  have h1:=ha (h,d,none) (by simp[Rd.touched])
  simp only[Ag1] at h1
  simp only[Rd.touched] at ha
  simp only[Rd.run,Rd.touched]
  rw[h1]
  cases hl:lk rt d with
  | none=>exact⟨rfl,rfl⟩
  | some r=>
   rw[hl] at ha
   simp only at ha ⊢
   by_cases hv:r.at_ h=v
   ·rw[if_pos hv,if_pos hv]
    rw[if_pos hv] at ha
    have ih:=run_ag (x:=k r) (rt:=rt) (rt':=rt') fun p hp=>ha p (by simp[hp])
    exact⟨ih.1,by rw[ih.2]⟩
   ·simp only[if_neg hv,and_self]
 | .stamp h d v k,ha=>by
  have h1:=ha (true,d,some 1000000000) (by simp[Rd.touched])
  have h2:=ha (h,d,some 1000000000) (by simp[Rd.touched])
  simp only[Ag1] at h1 h2
  simp only[Rd.touched] at ha
  simp only[Rd.run,Rd.touched]
  cases hl:lk rt d with
  | none=>
   rw[hl] at h1
   cases hl':lk rt' d with
   | none=>exact⟨rfl,rfl⟩
   | some r'=>rw[hl'] at h1;simp at h1
  | some r=>
   rw[hl] at h1 h2 ha
   cases hl':lk rt' d with
   | none=>rw[hl'] at h1;simp at h1
   | some r'=>
    rw[hl'] at h1 h2
    simp only[Option.map_some,Option.some.injEq,Prod.mk.injEq,Root.at_,if_true] at h1
    simp only[Option.map_some,Option.some.injEq,Prod.mk.injEq] at h2
    simp only
    rw[h2.1,h1.1]
    simp only at ha
    by_cases hv:r.at_ h=v
    ·rw[if_pos hv,if_pos hv]
     rw[if_pos hv] at ha
     have ih:=run_ag (x:=k r.hver) (rt:=rt) (rt':=rt') fun p hp=>ha p (by simp[hp])
     exact⟨ih.1,by rw[ih.2]⟩
    ·simp only[if_neg hv,and_self]
theorem setHits_mem {s:CSet}:∀ {t:List Tch},setHits s t=false→∀ p,p∈t→(s.d==p.2.1&&(match p.2.2 with | none=>true | some c=>s.c==c||(s.hdr&&p.1)))=false
 | [],_,p,hp=>by simp at hp
 | (h,d,c)::r,hh,p,hp=>by
  simp only[setHits,Bool.or_eq_false_iff] at hh
  rcases List.mem_cons.1 hp with rfl | hp
  ·exact hh.1
  ·exact setHits_mem hh.2 p hp
theorem layHits_mem {d:Nat}:∀ {t:List Tch},layHits d t=false→∀ p,p∈t→p.2.1≠d
 | [],_,p,hp=>by simp at hp
 | (h,d',c)::r,hh,p,hp=>by
  simp only[layHits,Bool.or_eq_false_iff,beq_eq_false_iff_ne,ne_eq] at hh
  rcases List.mem_cons.1 hp with rfl | hp
  ·exact fun e=>hh.1 e.symm
  ·exact layHits_mem hh.2 p hp
def putc (tick:Nat) (s:CSet) (r:Root):Root:={ r with cells:=r.cells.set s.c s.t,hver:=if s.hdr then nxt tick r else r.hver }
theorem lk_setCell {tick rt s} (d:Nat):lk (setCell tick rt s) d=if s.d=d then (lk rt d).map (putc tick s) else lk rt d:=by
 unfold setCell
 cases hs:lk rt s.d with
 | none=>
  by_cases hd:s.d=d
  ·subst hd;simp[hs]
  ·simp[hd]
 | some r=>
  by_cases hd:s.d=d
  ·subst hd;simp[hs,lk_up_self,putc]
  ·simp only[if_neg hd];exact lk_up_ne _ _ _ _ (Ne.symm hd)
theorem ag_setCell {tick rt s} {t:List Tch} (h:setHits s t=false):Ag t rt (setCell tick rt s):=by
 intro p hp
 have hm:=setHits_mem h p hp
 obtain⟨hh,d,c⟩:=p
 unfold Ag1
 simp only at hm ⊢
 rw[lk_setCell]
 by_cases hd:s.d=d
 ·rw[if_pos hd]
  subst hd
  simp only[beq_self_eq_true,Bool.true_and] at hm
  cases c with
  | none=>simp at hm
  | some c=>
   simp only[Bool.or_eq_false_iff,beq_eq_false_iff_ne,ne_eq,Bool.and_eq_false_iff] at hm
   simp only[Option.map_map]
   congr 1
   funext r
   simp only[Function.comp_apply,putc,Root.at_,Prod.mk.injEq]
   refine⟨?_,by rw[List.getElem?_set_ne hm.1]⟩
   cases hh
   ·rfl
   ·rcases hm.2 with h1 | h1
    ·simp[h1]
    ·simp at h1
 ·rw[if_neg hd]
  split<;>rfl
theorem ag_setCells {tick} {t:List Tch}:∀ {ss rt},setsHit ss t=false→Ag t rt (setCells tick rt ss)
 | [],rt,_=>fun p _=>Ag1.refl
 | s::ss,rt,h=>by
  simp only[setsHit,Bool.or_eq_false_iff] at h
  simp only[setCells]
  exact (ag_setCell h.1).trans (ag_setCells h.2)
theorem ag_up {rt d r} {t:List Tch} (h:layHits d t=false):Ag t rt (up rt d r):=by
 intro p hp
 have hm:=layHits_mem h p hp
 unfold Ag1
 rw[lk_up_ne _ _ _ _ hm]
 split<;>rfl
theorem ag_rtOf {tick rt d e} {t:List Tch} (h1:setsHit e.sets t=false) (h2:e.root.isSome=true→layHits d t=false):Ag t rt (rtOf tick rt d e):=by
 unfold rtOf
 cases hr:e.root with
 | none=>exact ag_setCells h1
 | some r=>exact (ag_setCells h1).trans (ag_up (h2 (by simp[hr])))
theorem srt_ext {α:Type}:∀ {l l':List (Nat×α)},Srt l→Srt l'→(∀ d,lk l d=lk l' d)→l=l'
 | [],[],_,_,_=>rfl
 | [],(k,x)::r,_,_,h=>by have:=h k;simp[lk] at this
 | (k,x)::r,[],_,_,h=>by have:=h k;simp[lk] at this
 | (k,x)::r,(k',x')::r',hs,hs',h=>by
  have hk:k=k':=by
   rcases Nat.lt_trichotomy k k' with hlt | heq | hgt
   ·have h1:=h k
    simp only[lk,if_true,if_neg (show ¬ k'=k by omega)] at h1
    rw[lk_none_of_lt fun p hp=>Nat.lt_trans hlt (hs'.1 p hp)] at h1
    simp at h1
   ·exact heq
   ·have h1:=h k'
    simp only[lk,if_true,if_neg (show ¬ k=k' by omega)] at h1
    rw[lk_none_of_lt fun p hp=>Nat.lt_trans hgt (hs.1 p hp)] at h1
    simp at h1
  subst hk
  have hx:=h k
  simp only[lk,if_true,Option.some.injEq] at hx
  subst hx
  rw[srt_ext hs.2 hs'.2 fun d=>?_]
  by_cases hd:k=d
  ·subst hd
   rw[lk_none_of_lt fun p hp=>hs.1 p hp,lk_none_of_lt fun p hp=>hs'.1 p hp]
  ·have:=h d
   simpa only[lk,if_neg hd] using this
theorem setCell_srt {tick rt s} (h:Srt rt):Srt (setCell tick rt s):=by
 unfold setCell
 split
 ·exact up_srt h
 ·exact h
theorem setCells_srt2 {tick}:∀ {ss rt},Srt rt→Srt (setCells tick rt ss)
 | [],_,h=>h
 | s::ss,rt,h=>by simp only[setCells];exact setCells_srt2 (setCell_srt h)
theorem setCell_comm {tick rt s s'} (h:Srt rt) (hn:(s'.d==s.d&&s'.c==s.c)=false):setCell tick (setCell tick rt s) s'=setCell tick (setCell tick rt s') s:=by
 refine srt_ext (setCell_srt (setCell_srt h)) (setCell_srt (setCell_srt h)) fun d=>?_
 simp only[lk_setCell]
 by_cases h1:s.d=d<;>by_cases h2:s'.d=d<;>simp only[h1,h2,if_true,if_false]
 subst h1
 simp only[h2,beq_self_eq_true,Bool.true_and,beq_eq_false_iff_ne,ne_eq] at hn
 simp only[Option.map_map]
 congr 1
 funext r
 simp only[Function.comp_apply,putc,Root.mk.injEq,true_and]
 refine⟨?_,?_⟩
 ·cases s.hdr<;>cases s'.hdr<;>rfl
 ·exact List.set_comm _ _ (fun e=>hn e.symm)
theorem setCell_up {tick rt s d r} (h:Srt rt) (hn:(s.d==d)=false):setCell tick (up rt d r) s=up (setCell tick rt s) d r:=by
 simp only[beq_eq_false_iff_ne,ne_eq] at hn
 refine srt_ext (setCell_srt (up_srt h)) (up_srt (setCell_srt h)) fun d'=>?_
 by_cases hd:d'=d
 ·subst hd
  rw[lk_setCell,if_neg hn,lk_up_self,lk_up_self]
 ·rw[lk_up_ne _ _ _ _ hd,lk_setCell,lk_setCell,lk_up_ne _ _ _ _ hd]
theorem up_up {α:Type} {l:List (Nat×α)} {d d':Nat} {x y:α} (h:Srt l) (hn:d≠d'):up (up l d x) d' y=up (up l d' y) d x:=by
 refine srt_ext (up_srt (up_srt h)) (up_srt (up_srt h)) fun k=>?_
 by_cases h1:k=d
 ·subst h1
  rw[lk_up_ne _ _ _ _ hn,lk_up_self,lk_up_self]
 ·by_cases h2:k=d'
  ·subst h2
   rw[lk_up_self,lk_up_ne _ _ _ _ h1,lk_up_self]
  ·rw[lk_up_ne _ _ _ _ h2,lk_up_ne _ _ _ _ h1,lk_up_ne _ _ _ _ h1,lk_up_ne _ _ _ _ h2]
theorem setCells_setCell {tick s}:∀ {ss rt},Srt rt→apartFrom s.d s.c ss=true→setCells tick (setCell tick rt s) ss=setCell tick (setCells tick rt ss) s
 | [],_,_,_=>rfl
 | x::ss,rt,h,ha=>by
  simp only[apartFrom,Bool.and_eq_true,Bool.not_eq_true'] at ha
  simp only[setCells]
  rw[setCell_comm h ha.1,setCells_setCell (setCell_srt h) ha.2]
theorem setCells_comm {tick}:∀ {ss ss' rt},Srt rt→setsMeet ss ss'=false→setCells tick (setCells tick rt ss) ss'=setCells tick (setCells tick rt ss') ss
 | [],_,_,_,_=>rfl
 | s::ss,ss',rt,h,hm=>by
  simp only[setsMeet,Bool.or_eq_false_iff,Bool.not_eq_false'] at hm
  simp only[setCells]
  rw[setCells_comm (setCell_srt h) hm.2,setCells_setCell h hm.1]
theorem setCells_up {tick d r}:∀ {ss rt},Srt rt→layMeets d ss=false→setCells tick (up rt d r) ss=up (setCells tick rt ss) d r
 | [],_,_,_=>rfl
 | s::ss,rt,h,hm=>by
  simp only[layMeets,Bool.or_eq_false_iff] at hm
  simp only[setCells]
  rw[setCell_up h hm.1,setCells_up (setCell_srt h) hm.2]
theorem rtOf_comm {tick rt} {d d':Nat} {e e':Eff} (h:Srt rt) (h1:setsMeet e.sets e'.sets=false) (h2:e.root.isSome=true→layMeets d e'.sets=false)
  (h3:e'.root.isSome=true→layMeets d' e.sets=false) (h4:e.root.isSome=true→e'.root.isSome=true→d≠d'):
  rtOf tick (rtOf tick rt d e) d' e'=rtOf tick (rtOf tick rt d' e') d e:=by
 unfold rtOf
 cases hr:e.root with
 | none=>
  cases hr':e'.root with
  | none=>exact setCells_comm h h1
  | some r'=>
   simp only
   rw[setCells_up (setCells_srt2 h) (h3 (by simp[hr'])),setCells_comm h h1]
 | some r=>
  cases hr':e'.root with
  | none=>
   simp only
   rw[setCells_up (setCells_srt2 h) (h2 (by simp[hr])),setCells_comm h h1]
  | some r'=>
   simp only
   rw[setCells_up (setCells_srt2 h) (h2 (by simp[hr])),setCells_up (setCells_srt2 h) (h3 (by simp[hr'])),setCells_comm h h1,
    up_up (setCells_srt2 (setCells_srt2 h)) (h4 (by simp[hr]) (by simp[hr']))]
theorem ver_setCell {tick rt s} (d:Nat):(lk (setCell tick rt s) d).map (·.ver)=(lk rt d).map (·.ver):=by
 rw[lk_setCell]
 split
 ·simp only[Option.map_map];rfl
 ·rfl
theorem ver_setCells {tick}:∀ {ss rt} (d:Nat),(lk (setCells tick rt ss) d).map (·.ver)=(lk rt d).map (·.ver)
 | [],_,_=>rfl
 | s::ss,rt,d=>by simp only[setCells];rw[ver_setCells,ver_setCell]
theorem ver_rtOf {tick rt d e} (d':Nat) (h:e.root.isSome=true→d'≠d):(lk (rtOf tick rt d e) d').map (·.ver)=(lk rt d').map (·.ver):=by
 unfold rtOf
 cases hr:e.root with
 | none=>exact ver_setCells d'
 | some r=>simp only;rw[lk_up_ne _ _ _ _ (h (by simp[hr])),ver_setCells]
theorem setsOk_ver {tick rt rt'}:∀ {ss},(∀ s,s∈ss→(lk rt' s.d).map (·.ver)=(lk rt s.d).map (·.ver))→setsOk tick rt' ss=setsOk tick rt ss
 | [],_=>rfl
 | s::ss,h=>by
  simp only[setsOk]
  rw[setsOk_ver fun s hs=>h s (by simp[hs])]
  have h1:=h s (by simp)
  congr 2
  cases hl:lk rt s.d with
  | none=>
   rw[hl] at h1
   cases hl':lk rt' s.d with
   | none=>rfl
   | some r'=>rw[hl'] at h1;simp at h1
  | some r=>
   rw[hl] at h1
   cases hl':lk rt' s.d with
   | none=>rw[hl'] at h1;simp at h1
   | some r'=>
    rw[hl'] at h1
    simp only[Option.map_some,Option.some.injEq] at h1
    simp only[h1]
theorem newOk_ver {tick rt rt' d} (h:(lk rt' d).map (·.ver)=(lk rt d).map (·.ver)):newOk tick rt' d=newOk tick rt d:=by
 unfold newOk
 cases hl:lk rt d with
 | none=>
  rw[hl] at h
  cases hl':lk rt' d with
  | none=>rfl
  | some r'=>rw[hl'] at h;simp at h
 | some r=>
  rw[hl] at h
  cases hl':lk rt' d with
  | none=>rw[hl'] at h;simp at h
  | some r'=>
   rw[hl'] at h
   simp only[Option.map_some,Option.some.injEq] at h
   simp only[h]
theorem layMeets_mem {d:Nat}:∀ {ss:List CSet},layMeets d ss=false→∀ s,s∈ss→s.d≠d
 | [],_,s,hs=>by simp at hs
 | x::ss,h,s,hs=>by
  simp only[layMeets,Bool.or_eq_false_iff,beq_eq_false_iff_ne,ne_eq] at h
  rcases List.mem_cons.1 hs with rfl | hs
  ·exact h.1
  ·exact layMeets_mem h.2 s hs
theorem args_congr {val val':Operand→Option T}:∀ {xs:List Operand},(∀ x,x∈xs→val x=val' x)→args val xs=args val' xs
 | [],_=>rfl
 | x::xs,h=>by
  simp only[args]
  rw[h x (by simp),args_congr fun y hy=>h y (by simp[hy])]
theorem parts_congr {E:Env} {val val':Operand→Option T}:∀ {ps:List (Nat×Operand)},(∀ p,p∈ps→val p.2=val' p.2)→evBuildParts E val ps=evBuildParts E val' ps
 | [],_=>rfl
 | (k,x)::ps,h=>by
  simp only[evBuildParts]
  rw[h (k,x) (by simp),parts_congr fun y hy=>h y (by simp[hy])]
theorem evOp_congr {E:Env} {call:FuncId→List Arg→Option Res} {me:FuncId} {val val':Operand→Option T} {tick d:Nat} {ty0:TypeId} {op:Op}
  (h:∀ x,x∈op.operands→val x=val' x):evOp E call me val tick d ty0 op=evOp E call me val' tick d ty0 op:=by
 cases op<;>simp only[Op.operands] at h
 case build t ps=>
  have:evBuildParts E val ps.toList=evBuildParts E val' ps.toList:=parts_congr fun p hp=>h p.2 (by simp;exact⟨p.1,by simpa using hp⟩)
  simp only[evOp];rw[this]
 case buildSlice t n ps=>
  have:evBuildParts E val ps.toList=evBuildParts E val' ps.toList:=parts_congr fun p hp=>h p.2 (by simp;exact⟨p.1,by simpa using hp⟩)
  simp only[evOp];rw[this]
 case makeFunc fn first caps=>
  have:args val caps.toList=args val' caps.toList:=args_congr fun x hx=>h x (by simp;right;simpa using hx)
  cases fn
  case func f=>simp only[evOp];rw[this]
  all_goals rfl
 case indexAddr t x y=>
  have h0:=h x (by simp)
  have h1:=h y (by simp)
  simp only[evOp];rw[h0,h1]
 case slice t x lo hi mx=>
  have h0:val x=val' x:=h x (by simp)
  have h1:args val lo.toList=args val' lo.toList:=args_congr fun y hy=>h y (by simp at hy;simp[hy])
  have h2:args val hi.toList=args val' hi.toList:=args_congr fun y hy=>h y (by simp at hy;simp[hy])
  have h3:args val mx.toList=args val' mx.toList:=args_congr fun y hy=>h y (by simp at hy;simp[hy])
  simp only[evOp]
  rw[h0,h1,h2,h3]
 case call c=>
  have ha:args val c.args.toList=args val' c.args.toList:=args_congr fun y hy=>h y (by simp[Call.operands] ;right;simpa using hy)
  cases hc:c.callee with
  | value g=>
   have hg:val g=val' g:=h g (by simp[Call.operands,hc])
   simp only[evOp,hc];rw[hg,ha]
  | invoke r m=>simp only[evOp,hc]
  | builtin b=>
   simp only[evOp,hc]
   cases b
   case len=>simp only;rw[ha]
   case append=>simp only;rw[ha]
   case cap=>simp only;rw[ha]
   case min=>simp only;rw[ha]
   case max=>simp only;rw[ha]
   all_goals rfl
 case pick c a b=>
  have h0:=h c (by simp)
  have h1:=h a (by simp)
  have h2:=h b (by simp)
  simp only[evOp];rw[h0,h1,h2]
 all_goals first
  | (simp only[evOp];done)
  | (have h0:=h _ (List.mem_toArray.2 (List.mem_singleton.2 rfl));simp only[evOp];rw[h0];done)
  | (simp only[List.mem_toArray,List.mem_cons,List.not_mem_nil,or_false,forall_eq_or_imp,forall_eq] at h;simp only[evOp];rw[h.1,h.2])
def effOf (E:Env) (call:FuncId→List Arg→Option Res) (me:FuncId) (ops:List Oper) (st:St) (o:Oper):Option (Eff×List Tch):=
 match wanted ops st.fr o.guard with
 | some true=>
  match (evOp E call me (St.val st.fr) st.tick (o.dst.getD 0) o.type o.op).run st.rt with
  | some e=>some (e,(evOp E call me (St.val st.fr) st.tick (o.dst.getD 0) o.type o.op).touched st.rt)
  | none=>none
 | some false=>some ({ val:=.v undef },[])
 | none=>none
def frOf (fr:List (Nat×T)) (dst:Option Tmp) (t:T):List (Nat×T):=
 match dst with
 | none=>fr
 | some d=>up fr d t
structure Fits (st:St) (dst:Option Tmp) (e:Eff):Prop where
 sets:setsOk st.tick st.rt e.sets=true
 apart:setsApart e.sets=true
 lt:∀ d,dst=some d→d<st.n
 new:∀ r,e.root=some r→dst.isSome=true∧newOk st.tick st.rt (dst.getD 0)=true∧r.ver=st.tick∧r.hver=st.tick
theorem apply_iff {st st':St} {dst:Option Tmp} {e:Eff}:st.apply dst e=some st'↔Fits st dst e∧st'=⟨st.n,frOf st.fr dst e.val,rtOf st.tick st.rt (dst.getD 0) e,st.tick⟩:=by
 constructor
 ·intro h
  unfold St.apply at h
  split at h
  ·rename_i h12
   simp only[Bool.and_eq_true] at h12
   cases dst with
   | none=>
    simp only at h
    split at h
    ·rename_i hn
     simp only[Option.some.injEq] at h;subst h
     cases hr:e.root with
     | none=>exact⟨⟨h12.1,h12.2,fun d hd=>by simp at hd,fun r hr'=>by simp[hr] at hr'⟩,by simp[frOf,rtOf,hr]⟩
     | some r=>rw[hr] at hn;simp at hn
    ·simp at h
   | some d=>
    simp only at h
    split at h
    ·rename_i hdn
     split at h
     ·rename_i hr
      simp only[Option.some.injEq] at h;subst h
      exact⟨⟨h12.1,h12.2,fun d' hd=>by simp only[Option.some.injEq] at hd;subst hd;exact hdn,fun r hr'=>by simp[hr] at hr'⟩,by simp[frOf,rtOf,hr]⟩
     ·rename_i r hr
      split at h
      ·rename_i hnew
       simp only[Bool.and_eq_true,beq_iff_eq] at hnew
       simp only[Option.some.injEq] at h;subst h
       refine⟨⟨h12.1,h12.2,fun d' hd=>by simp only[Option.some.injEq] at hd;subst hd;exact hdn,fun r' hr'=>?_⟩,by simp[frOf,rtOf,hr]⟩
       rw[hr] at hr';simp only[Option.some.injEq] at hr';subst hr'
       exact⟨rfl,hnew.1,hnew.2.1,hnew.2.2⟩
      ·simp at h
    ·simp at h
  ·simp at h
 ·rintro⟨f,rfl⟩
  unfold St.apply
  rw[if_pos (by simp[f.sets,f.apart])]
  cases dst with
  | none=>
   cases hr:e.root with
   | none=>simp[frOf,rtOf,hr]
   | some r=>exact absurd (f.new r hr).1 (by simp)
  | some d=>
   simp only
   rw[if_pos (f.lt d rfl)]
   cases hr:e.root with
   | none=>simp[frOf,rtOf,hr]
   | some r=>
    obtain⟨_,h1,h2,h3⟩:=f.new r hr
    simp only[Option.getD_some] at h1
    simp[frOf,rtOf,hr,h1,h2,h3]
section any
variable {E:Env} {call:FuncId→List Arg→Option Res} {me:FuncId} {ops:List Oper}
theorem evOne_iff {st st':St} {o:Oper}:evOne E call me ops st o=some st'↔∃ p,effOf E call me ops st o=some p∧st.apply o.dst p.1=some st':=by
 unfold evOne effOf
 cases hw:wanted ops st.fr o.guard with
 | none=>simp
 | some b=>
  cases b with
  | true=>
   simp only[gif,if_true]
   cases he:(evOp E call me (St.val st.fr) st.tick (o.dst.getD 0) o.type o.op).run st.rt with
   | none=>simp
   | some e=>simp
  | false=>simp[gif]
def mkFoot (o:Oper) (p:Eff×List Tch):Foot:=⟨o.dst.getD 0,p.1.root.isSome,p.1.sets,p.2⟩
theorem footOf_eq {st:St} {o:Oper} {p:Eff×List Tch} (h:effOf E call me ops st o=some p):footOf E call me ops st o=mkFoot o p:=by
 unfold effOf at h
 unfold footOf
 split at h
 ·rename_i hw
  rw[hw]
  split at h
  ·rename_i e he
   simp only[Option.some.injEq] at h;subst h
   simp only[if_true,he];rfl
  ·simp at h
 ·rename_i hw
  rw[hw]
  simp only[Option.some.injEq] at h;subst h
  rfl
 ·simp at h
theorem wanted_up {fr:List (Nat×T)} {o:Oper} {opsA:Array Oper} {dst:Option Tmp} {t:T} (h:∀ d,dst=some d→d∉o.looksAt opsA):
  wanted opsA.toList (frOf fr dst t) o.guard=wanted opsA.toList fr o.guard:=by
 cases dst with
 | none=>rfl
 | some d=>
  have hd:=h d rfl
  unfold wanted
  cases hg:o.guard with
  | none=>rfl
  | some gw=>
   obtain⟨g,v⟩:=gw
   simp only[Array.getElem?_toList]
   cases ht:(opsA[g]?).bind (·.dst) with
   | none=>rfl
   | some t'=>
    have hne:t'≠d:=fun e=>hd (by subst e;simp[Oper.looksAt,hg,ht])
    simp only[frOf,lk_up_ne _ _ _ _ hne]
theorem val_up {fr:List (Nat×T)} {o:Oper} {opsA:Array Oper} {dst:Option Tmp} {t:T} (h:∀ d,dst=some d→d∉o.looksAt opsA) {x:Operand} (hx:x∈o.op.operands):
  St.val (frOf fr dst t) x=St.val fr x:=by
 cases dst with
 | none=>rfl
 | some d=>
  have hd:=h d rfl
  cases x with
  | tmp k=>
   have hne:k≠d:=fun e=>hd (by
    subst e
    exact List.mem_append_left _ (List.mem_filterMap.2 ⟨.tmp k,by simpa using hx,rfl⟩))
   simp only[St.val,frOf,lk_up_ne _ _ _ _ hne]
  | const _=>rfl
  | func _=>rfl
  | global _=>rfl
theorem effOf_same {opsA:Array Oper} {st st':St} {o:Oper} {p:Eff×List Tch} (h:effOf E call me opsA.toList st o=some p) (ht:st'.tick=st.tick)
  (hw:wanted opsA.toList st'.fr o.guard=wanted opsA.toList st.fr o.guard) (hv:∀ x,x∈o.op.operands→St.val st'.fr x=St.val st.fr x) (ha:Ag p.2 st.rt st'.rt):
  effOf E call me opsA.toList st' o=some p:=by
 unfold effOf at h ⊢
 rw[hw,ht]
 split at h
 ·split at h
  ·rename_i e he
   simp only[Option.some.injEq] at h;subst h
   rw[evOp_congr (val':=St.val st.fr) hv]
   obtain⟨h1,h2⟩:=run_ag ha
   rw[h1,h2,he]
  ·simp at h
 ·exact h
 ·simp at h
theorem frOf_comm {fr:List (Nat×T)} {d d':Option Tmp} {t t':T} (h:Srt fr) (hn:∀ x,d=some x→d'≠some x):frOf (frOf fr d t) d' t'=frOf (frOf fr d' t') d t:=by
 cases d with
 | none=>rfl
 | some x=>
  cases d' with
  | none=>rfl
  | some y=>exact up_up h fun e=>hn x rfl (by rw[e])
theorem frOf_srt {fr:List (Nat×T)} {d:Option Tmp} {t:T} (h:Srt fr):Srt (frOf fr d t):=by
 cases d with
 | none=>exact h
 | some x=>exact up_srt h
theorem rtOf_srt {tick rt d e} (h:Srt rt):Srt (rtOf tick rt d e):=by
 unfold rtOf
 cases e.root with
 | none=>exact setCells_srt2 h
 | some r=>exact up_srt (setCells_srt2 h)
theorem swap {opsA:Array Oper} {st s1 s2:St} {oi oj:Oper} {pi pj:Eff×List Tch} (hs:Srt st.fr) (hs':Srt st.rt) (hap:oi.apart opsA oj=true)
  (hc:clash (mkFoot oi pi) (mkFoot oj pj)=false)
  (h1:effOf E call me opsA.toList st oi=some pi) (h2:st.apply oi.dst pi.1=some s1) (h3:effOf E call me opsA.toList s1 oj=some pj) (h4:s1.apply oj.dst pj.1=some s2):
  ∃ s1',effOf E call me opsA.toList st oj=some pj∧st.apply oj.dst pj.1=some s1'∧effOf E call me opsA.toList s1' oi=some pi∧s1'.apply oi.dst pi.1=some s2:=by
 obtain⟨a1,a2,a3⟩:=Oper.apart_spec hap
 obtain⟨ei,ti⟩:=pi
 obtain⟨ej,tj⟩:=pj
 simp only[clash,upsets,mkFoot,Bool.or_eq_false_iff,Bool.and_eq_false_iff] at hc
 obtain⟨⟨⟨c1,c2⟩,c3,c4⟩,c5⟩:=hc
 have l1:ei.root.isSome=true→layHits (oi.dst.getD 0) tj=false∧layMeets (oi.dst.getD 0) ej.sets=false:=fun h=>by
  rcases c2 with c2 | c2
  ·rw[h] at c2;simp at c2
  ·exact c2
 have l2:ej.root.isSome=true→layHits (oj.dst.getD 0) ti=false∧layMeets (oj.dst.getD 0) ei.sets=false:=fun h=>by
  rcases c4 with c4 | c4
  ·rw[h] at c4;simp at c4
  ·exact c4
 obtain⟨f1,rfl⟩:=apply_iff.1 h2
 obtain⟨f2,rfl⟩:=apply_iff.1 h4
 have lne:ei.root.isSome=true→ej.root.isSome=true→oi.dst.getD 0≠oj.dst.getD 0:=fun g1 g2=>by
  obtain⟨r1,hr1⟩:=Option.isSome_iff_exists.1 g1
  obtain⟨r2,hr2⟩:=Option.isSome_iff_exists.1 g2
  have d1:=(f1.new r1 hr1).1
  have d2:=(f2.new r2 hr2).1
  cases hdi:oi.dst with
  | none=>rw[hdi] at d1;simp at d1
  | some x=>
   cases hdj:oj.dst with
   | none=>rw[hdj] at d2;simp at d2
   | some y=>
    simp only[Option.getD_some,ne_eq]
    intro e
    exact a2 x hdi (by rw[hdj,e])
 have g3:effOf E call me opsA.toList st oj=some (ej,tj):=
  effOf_same h3 rfl (wanted_up a1).symm (fun x hx=>(val_up a1 hx).symm) (ag_rtOf c1 fun h=>(l1 h).1).symm
 have fits2:Fits st oj.dst ej:=by
  refine⟨?_,f2.apart,f2.lt,fun r hr=>?_⟩
  ·rw[←f2.sets]
   refine (setsOk_ver fun s hs=>?_).symm
   exact ver_rtOf s.d fun h=>layMeets_mem (l1 h).2 s hs
  ·obtain⟨q1,q2,q3,q4⟩:=f2.new r hr
   refine⟨q1,?_,q3,q4⟩
   rw[←q2]
   exact (newOk_ver (ver_rtOf _ fun h=>(lne h (by simp[hr])).symm)).symm
 have g4:=apply_iff.2 ⟨fits2,rfl⟩
 refine⟨_,g3,g4,effOf_same h1 rfl (wanted_up a3) (fun x hx=>val_up a3 hx) (ag_rtOf c3 fun h=>(l2 h).1),apply_iff.2 ⟨⟨?_,f1.apart,f1.lt,fun r hr=>?_⟩,?_⟩⟩
 ·rw[←f1.sets]
  exact setsOk_ver fun s hs=>ver_rtOf s.d fun h=>layMeets_mem (l2 h).2 s hs
 ·obtain⟨q1,q2,q3,q4⟩:=f1.new r hr
  refine⟨q1,?_,q3,q4⟩
  rw[←q2]
  have hi:ei.root.isSome=true:=by rw[show ei.root=some r from hr];rfl
  exact newOk_ver (ver_rtOf _ fun h=>lne hi h)
 ·have e1:=frOf_comm (t:=ei.val) (t':=ej.val) hs a2
  have e2:=rtOf_comm (tick:=st.tick) hs' c5 (fun h=>(l1 h).2) (fun h=>(l2 h).2) lne
  show St.mk st.n _ _ st.tick=St.mk st.n _ _ st.tick
  exact (congrArg (fun a=>St.mk st.n a (rtOf st.tick (rtOf st.tick st.rt (oi.dst.getD 0) ei) (oj.dst.getD 0) ej) st.tick) e1).trans (congrArg (fun b=>St.mk st.n (frOf (frOf st.fr oj.dst ej.val) oi.dst ei.val) b st.tick) e2)
end any
theorem okL_plain {sz h h' I I'}:∀ {c us f},c.all plainCell=true→okL sz h I c us f→okL sz h' I' c us []
 | [],us,f,_,hk=>by simp only[okL] at hk ⊢;exact⟨hk.1,trivial⟩
 | t::c,us,f,hc,hk=>by
  simp only[okL] at hk ⊢
  simp only[List.all_cons,Bool.and_eq_true] at hc
  obtain⟨u,us',f1,f2,h1,_,h3,h4⟩:=hk
  refine⟨u,us',[],[],h1,rfl,?_,okL_plain hc.2 h4⟩
  cases t<;>simp only[plainCell] at hc<;>first | (simp at hc;done) | skip
  simp only[okV] at h3 ⊢
  exact⟨h3.1,trivial⟩
theorem okEs_plain {sz h h' I I'} {s:Nat}:∀ {es l f},es.all (·.all plainCell)=true→okEs sz h I s es l f→okEs sz h' I' s es l []
 | [],l,f,_,_=>by simp only[okEs]
 | c::es,l,f,hc,hk=>by
  simp only[okEs] at hk ⊢
  simp only[List.all_cons,Bool.and_eq_true] at hc
  obtain⟨f1,f2,h1,_,h3,h4⟩:=hk
  exact⟨[],[],h1,rfl,okL_plain hc.1 h3,okEs_plain hc.2 h4⟩
theorem okEs_plainF {sz h I} {s:Nat}:∀ {es l f},es.all (·.all plainCell)=true→okEs sz h I s es l f→f=[]
 | [],l,f,_,hk=>by simpa only[okEs] using hk
 | c::es,l,f,hc,hk=>by
  simp only[okEs] at hk
  simp only[List.all_cons,Bool.and_eq_true] at hc
  obtain⟨f1,f2,h1,rfl,h3,h4⟩:=hk
  have hf:∀ {c us f},c.all plainCell=true→okL sz h I c us f→f=[]:=by
   intro c
   induction c with
   | nil=>intro us f _ hk;simp only[okL] at hk;exact hk.2
   | cons t c ih=>
    intro us f hc hk
    simp only[okL] at hk
    simp only[List.all_cons,Bool.and_eq_true] at hc
    obtain⟨u,us',f1,f2,_,rfl,h3,h4⟩:=hk
    rw[ih hc.2 h4]
    cases t<;>simp only[plainCell] at hc<;>first | (simp at hc;done) | skip
    simp only[okV] at h3
    rw[h3.2];rfl
  rw[hf hc.1 h3,okEs_plainF hc.2 h4];rfl
theorem plain_own:∀ {c:List T},c.all plainCell=true→anyOwn c=false
 | [],_=>rfl
 | t::c,h=>by
  simp only[List.all_cons,Bool.and_eq_true] at h
  cases t<;>simp only[plainCell] at h<;>first | (simp at h;done) | skip
  simp only[anyOwn,isOwn,plain_own h.2,Bool.or_self]
theorem skEs_plain {sz h' h} {s:Nat}:∀ {es' es:List (List T)} {l' l:List Value},es'.all (·.all plainCell)=true→es'.length=es.length→(∀ c,c∈es'→c.length=s)→(∀ c,c∈es→c.length=s)→l'.length=es'.length*s→l.length=es.length*s→
  skEs sz h' h s es' es l' l
 | [],es,l',l,_,_,_,_,_,_=>by simp only[skEs]
 | c'::es',[],l',l,_,hl,_,_,_,_=>by simp at hl
 | c'::es',c::es,l',l,ha,hl,h1,h2,h3,h4=>by
  simp only[List.all_cons,Bool.and_eq_true] at ha
  simp only[List.length_cons,Nat.add_right_cancel_iff] at hl
  simp only[List.length_cons,Nat.succ_mul] at h3 h4
  have e1:=h1 c' (by simp)
  have e2:=h2 c (by simp)
  simp only[skEs]
  exact⟨c,es,rfl,skL_none (plain_own ha.1) (by omega) (by rw[List.length_take];omega) (by rw[List.length_take];omega),
   skEs_plain ha.2 hl (fun c hc=>h1 c (by simp[hc])) (fun c hc=>h2 c (by simp[hc])) (by rw[List.length_drop];omega) (by rw[List.length_drop];omega)⟩
theorem okEs_rows {sz h I} {s:Nat}:∀ {es l f},okEs sz h I s es l f→∀ c,c∈es→c.length=s
 | [],l,f,_,c,hc=>by simp at hc
 | c0::es,l,f,hk,c,hc=>by
  simp only[okEs] at hk
  obtain⟨f1,f2,h1,_,_,h4⟩:=hk
  rcases List.mem_cons.1 hc with rfl | hc
  ·exact h1
  ·exact okEs_rows h4 c hc
theorem skEs_ext {sz h' h} {s:Nat}:∀ {es' es:List (List T)} {l' l m' m:List Value},skEs sz h' h s es' es l' l→m'.take (es'.length*s)=l'.take (es'.length*s)→m.take (es'.length*s)=l.take (es'.length*s)→skEs sz h' h s es' es m' m
 | [],es,l',l,m',m,_,_,_=>by simp only[skEs]
 | c'::es',es,l',l,m',m,hk,h1,h2=>by
  simp only[skEs] at hk ⊢
  obtain⟨c,et,rfl,h3,h4⟩:=hk
  simp only[List.length_cons,Nat.succ_mul] at h1 h2
  have e:∀ {a b:List Value},a.take (es'.length*s+s)=b.take (es'.length*s+s)→a.take s=b.take s∧(a.drop s).take (es'.length*s)=(b.drop s).take (es'.length*s):=fun {a b} hab=>by
   have x1:=congrArg (List.take s) hab
   have x2:=congrArg (List.drop s) hab
   rw[List.take_take,List.take_take,Nat.min_eq_left (by omega)] at x1
   rw[List.drop_take,List.drop_take,Nat.add_sub_cancel] at x2
   exact⟨x1,x2⟩
  obtain⟨a1,a2⟩:=e h1
  obtain⟨b1,b2⟩:=e h2
  exact⟨c,et,rfl,by rw[a1,b1];exact h3,skEs_ext h4 a2 b2⟩
section clear
variable {E:Env} {z:Zn} {L:Lnt} {st st':St} {gh:Nat→G} {w:World} {FS:List Nat} {a:Act} {Q:Exit→Act→World→Prop}
theorem HRel.strike {sz z rt gh w FS} {d c:Nat} {ro:Root} {e:TypeId} {es:List (List T)} {k:Nat} {zero:List T} {zs:List Value} {us:Value} {tick:Nat} (r:HRel sz z rt gh w FS []) (hl:lk rt d=some ro) (hc:ro.cells[c]?=some (.own e es))
  (hu:(gh d).vals[c]?=some us) (hk:k<es.length) (hp:es.all (·.all plainCell)=true) (hz:zero.all plainCell=true) (hzs:okEs sz w.heap (fun _=>False) (sz e) (List.replicate (es.length - k) zero) zs []) (hzl:zs.length=(es.length - k)*sz e) (hsz:zero.length=sz e):
  ∃ b o cap arr el fz,us=.slice (some ⟨b,o,none⟩) es.length cap∧es.length≤cap∧w.heap[b]?=some (.cells arr el fz)∧fzFree fz arr.size∧o+cap*sz e≤arr.size∧
   ∃ FS',HRel sz z (up rt d { ro with cells:=ro.cells.set c (.own e (es.take k++List.replicate (es.length - k) zero)) }) gh (stores w b (o+k*sz e) zs) FS' []∧
    Keeps ⟨sz,w.heap,Inow z w (FS++[]),rt,gh⟩ ⟨sz,(stores w b (o+k*sz e) zs).heap,Inow z (stores w b (o+k*sz e) zs) (FS'++[]),up rt d { ro with cells:=ro.cells.set c (.own e (es.take k++List.replicate (es.length - k) zero)) },gh⟩ (Stm tick rt):=by
 obtain⟨f0,hL,hsub⟩:=r.rootCells hl
 obtain⟨u,fo,fr,g1,g2,g3,_⟩:=okL_focus hL hc
 rw[hu] at g1
 simp only[Option.some.injEq] at g1
 subst g1
 simp only[okV] at g3
 rcases g3 with⟨rfl,_⟩ | ⟨b,o,cap,arr,el,fz,fs',rfl,hcap,hb,hfz,hfit,rfl,hes⟩
 ·simp at hk
 have hfs':=okEs_plainF hp hes
 subst hfs'
 have hbFS:b∈FS:=hsub b ((g2.mem b).2 (.inl (by simp)))
 have hes0:=okEs_le hes
 have hal:arr.toList.length=arr.size:=Array.length_toList
 rw[List.length_drop,hal] at hes0
 have hkk:k*sz e+(es.length - k)*sz e=es.length*sz e:=by rw[←Nat.add_mul];congr 1;omega
 have hcc:es.length*sz e≤cap*sz e:=Nat.mul_le_mul_right _ hcap
 obtain⟨arr',y1,y2,y3⟩:=stores_eq (vs:=zs) (o:=o+k*sz e) hb (by omega)
 obtain⟨s1,s2,s3,s4⟩:=stores_same (b:=b) (vs:=zs) (w:=w) (o:=o+k*sz e)
 have hw:∀ x,x≠b→(stores w b (o+k*sz e) zs).heap[x]?=w.heap[x]?:=fun x hx=>stores_ne hx
 refine⟨b,o,cap,arr,el,fz,rfl,hcap,hb,hfz.1,hfit,?_⟩
 generalize hW:stores w b (o+k*sz e) zs=w' at *
 have hrow:(arr'.toList.drop o).take (es.length*sz e)=(arr.toList.drop o).take (k*sz e)++zs:=by
  rw[y3,List.append_assoc,List.drop_append_of_le_length (by rw[List.length_take];omega),List.drop_take,Nat.add_sub_cancel_left,List.take_append,List.length_take,List.length_drop,hal,
   Nat.min_eq_left (by omega),List.take_take,Nat.min_eq_right (by omega),show es.length*sz e - k*sz e=zs.length by omega,List.take_append_of_le_length (Nat.le_refl _),List.take_of_length_le (Nat.le_refl _)]
 have hlen:(es.take k++List.replicate (es.length - k) zero).length=es.length:=by rw[List.length_append,List.length_take,List.length_replicate];omega
 have hpn:(es.take k++List.replicate (es.length - k) zero).all (·.all plainCell)=true:=by
  rw[List.all_append,Bool.and_eq_true]
  exact⟨by rw[List.all_eq_true] at hp ⊢;exact fun c hc=>hp c (List.mem_of_mem_take hc),by rw[List.all_eq_true];intro c hc;rw[List.eq_of_mem_replicate hc];exact hz⟩
 have hnew:∀ I',okEs sz w'.heap I' (sz e) (es.take k++List.replicate (es.length - k) zero) (arr'.toList.drop o) []:=fun I'=>by
  have e1:=okEs_exact (okEs_take k (okEs_plain (h':=w'.heap) (I':=I') hp hes))
  have lt:(es.take k).length=k:=by rw[List.length_take];omega
  rw[lt] at e1
  have e2:=okEs_append e1 (by rw[lt,List.length_take,List.length_drop,hal];omega) (okEs_agree (h':=w'.heap) (I':=I') ⟨fun _ h=>h.elim,fun _ h=>by simp at h⟩ hzs:okEs sz w'.heap I' (sz e) (List.replicate (es.length - k) zero) zs [])
  refine okEs_ext (l:=(arr.toList.drop o).take (k*sz e)++zs) e2 ?_
  have hll:((arr.toList.drop o).take (k*sz e)++zs).length=es.length*sz e:=by rw[List.length_append,List.length_take,List.length_drop,hal];omega
  rw[hlen,hrow,List.take_of_length_le (Nat.le_of_eq hll)]
 have hsk:skV sz w'.heap w.heap (.own e (es.take k++List.replicate (es.length - k) zero)) (.own e es) (.slice (some ⟨b,o,none⟩) es.length cap):=by
  simp only[skV]
  refine⟨es,rfl,hlen.symm,.inr ⟨b,o,es.length,cap,arr',el,fz,arr,el,fz,rfl,y1,hb,?_⟩⟩
  have:=skEs_plain (sz:=sz) (h':=w'.heap) (h:=w.heap) (s:=sz e) (es':=es.take k++List.replicate (es.length - k) zero) (es:=es) (l':=(arr'.toList.drop o).take (es.length*sz e)) (l:=(arr.toList.drop o).take (es.length*sz e)) hpn hlen
   (fun c hc=>by
    rcases List.mem_append.1 hc with hc | hc
    ·exact okEs_rows hes c (List.mem_of_mem_take hc)
    ·rw[List.eq_of_mem_replicate hc];exact hsz) (okEs_rows hes) (by rw[hlen,List.length_take,List.length_drop,show arr'.toList.length=arr'.size from Array.length_toList];omega) (by rw[List.length_take,List.length_drop,hal];omega)
  exact skEs_ext this (by rw[hlen,List.take_take,Nat.min_self]) (by rw[hlen,List.take_take,Nat.min_self])
 have:=r.turn (tick:=tick) (w':=w') (g1:=gh d) (cells':=ro.cells.set c (.own e (es.take k++List.replicate (es.length - k) zero))) (hv:=ro.hver) (Ex:=fun X'=>X'=[]) hl rfl s1 s2 s3 (by omega) ?_
 ·obtain⟨FS',X',rfl,h2,h3⟩:=this
  rw[gset_self] at h2 h3
  exact⟨FS',h2,h3⟩
 intro fd rr hB hkd
 have huFS:Uniq FS:=fun x=>by have:=r.uniq x;simp only[List.count_append] at this;omega
 have hIb:∀ x,Inow z w (FS++[]) x→x≠b:=fun x hx=>by rintro rfl;exact (r.imm hx).2 (by simp[hbFS])
 have key:∀ {f0:List Nat},okL sz w.heap (Inow z w (FS++[])) ro.cells (gh d).vals f0→(∀ x,f0.count x≤fd.count x)→
   ∃ f1,(∀ x,f1.count x=f0.count x)∧b∈f0∧okL sz w'.heap (Inow z w (FS++[])) (ro.cells.set c (.own e (es.take k++List.replicate (es.length - k) zero))) (gh d).vals f1∧skL sz w'.heap w.heap (ro.cells.set c (.own e (es.take k++List.replicate (es.length - k) zero))) ro.cells (gh d).vals (gh d).vals:=by
  intro f0 hL0 hle
  have huf:Uniq f0:=fun x=>by have h1:=hle x;have h2:=hB.uniq_l huFS x;omega
  obtain⟨u,fo,fr,g1,g2,g3,g4⟩:=okL_focus hL0 hc
  rw[hu] at g1
  simp only[Option.some.injEq] at g1
  subst g1
  simp only[okV] at g3
  rcases g3 with⟨rfl,_⟩ | ⟨b2,o2,cap2,arr2,el2,fz2,fs2,hsl,_,hb2,hfz2,hfit2,rfl,hes2⟩
  ·simp at hk
  simp only[Value.slice.injEq,Option.some.injEq,Addr.mk.injEq] at hsl
  obtain⟨⟨rfl,rfl,_⟩,_,rfl⟩:=hsl
  rw[hb] at hb2
  simp only[Option.some.injEq,Obj.cells.injEq] at hb2
  obtain⟨rfl,rfl,rfl⟩:=hb2
  have:=okEs_plainF hp hes2
  subst this
  have hbfr:b∉fr:=fun hm=>g2.apart huf (by simp) hm
  obtain⟨f1,p1,p2⟩:=g4 w'.heap (Inow z w (FS++[])) (.own e (es.take k++List.replicate (es.length - k) zero)) (.slice (some ⟨b,o,none⟩) es.length cap) [b] ⟨fun x hx=>⟨hx,hw x (hIb x hx)⟩,fun x hx=>hw x (by rintro rfl;exact hbfr hx)⟩
   (by
    simp only[okV]
    exact .inr ⟨b,o,cap,arr',el,fz,[],by rw[hlen],by rw[hlen];exact hcap,y1,by rw[y2];exact hfz,by rw[y2];exact hfit,rfl,hnew _⟩)
  rw[set_self hu] at p1
  have hf1:∀ x,f1.count x=f0.count x:=fun x=>by have h1:=p2 x;have h2:=g2 x;omega
  have hsl:=skL_set (h':=w'.heap) (t':=.own e (es.take k++List.replicate (es.length - k) zero)) (u':=.slice (some ⟨b,o,none⟩) es.length cap) hL0 hc hu fun f' r' hB' hv'=>⟨fun x hx=>hw x (by
   rintro rfl
   simp only[okV] at hv'
   rcases hv' with⟨rfl,_⟩ | ⟨b3,o3,cap3,arr3,el3,fz3,fs3,hs3,_,_,_,_,rfl,_⟩
   ·simp at hk
   ·simp only[Value.slice.injEq,Option.some.injEq,Addr.mk.injEq] at hs3
    obtain⟨⟨rfl,_⟩,_⟩:=hs3
    exact hB'.apart huf (by simp) hx),fun _=>rfl,hsk⟩
  rw[set_self hu] at hsl
  exact⟨f1,hf1,(g2.mem b).2 (.inl (by simp)),p1,hsl⟩
 unfold okRoot at hkd
 split at hkd
 ·rename_i hblk
  obtain⟨hreal,hL0⟩:=hkd
  obtain⟨f1,hct,hbf,hL1,hsk1⟩:=key hL0 (fun x=>Nat.le_refl _)
  refine⟨f1,[],rfl,fun x hx=>hw x (by rintro rfl;exact hB.apart huFS hbf hx),fun x _ hx=>hw x (by rintro rfl;exact hx (by simp[(hB.mem x).2 (.inl hbf)])),fun x=>.inl (by have:=hct x;simp only[List.count_append,List.count_nil];omega),fun hI=>?_,⟨.inl ⟨rfl,hsk1⟩⟩⟩
  unfold okRoot
  rw[hblk]
  exact⟨hreal,okL_agree ⟨fun x hx=>⟨hI x hx,rfl⟩,fun x _=>rfl⟩ hL1⟩
 ·rename_i B0 hblk
  obtain⟨b0,pre0,post0,el0,fz0⟩:=B0
  obtain⟨hreal,fs',arr0,rfl,e2,e3,e4,hL0⟩:=hkd
  obtain⟨f1,hct,hbf,hL1,hsk1⟩:=key hL0 (fun x=>by simp only[List.count_cons];omega)
  have hb0:b≠b0:=by
   rintro rfl
   have h1:=hB.uniq_l huFS b
   have h2:=List.count_pos_iff.2 hbf
   simp only[List.count_cons_self] at h1
   omega
  refine⟨b0::f1,[],rfl,fun x hx=>hw x (by rintro rfl;exact hB.apart huFS (by simp[hbf]) hx),fun x _ hx=>hw x (by rintro rfl;exact hx (by simp[(hB.mem x).2 (.inl (by simp[hbf]))])),fun x=>.inl (by have:=hct x;simp only[List.count_append,List.count_cons,List.count_nil];omega),fun hI=>?_,⟨.inl ⟨rfl,hsk1⟩⟩⟩
  unfold okRoot
  rw[hblk]
  exact⟨hreal,f1,arr0,rfl,by rw[hw b0 (Ne.symm hb0)];exact e2,e3,e4,okL_agree ⟨fun x hx=>⟨hI x hx,rfl⟩,fun x _=>rfl⟩ hL1⟩
end clear
section step
variable {P:Program} {ops:Array Oper} {i:Nat} {rest:List Nat} {o:Oper} {a:Act} {w w':World} {v:Value} {Q:Exit→Act→World→Prop}
theorem step_one (hi:ops[i]?=some o) (hg:o.guard=none) (hr:(execOp a.eval o).run P w=.ok (.value v) w') (hK:wpOps P ops Q rest (a.put o.dst v) w'):wpOps P ops Q (i::rest) a w:=by
 rw[wpOps_cons]
 unfold wpOp
 rw[hi]
 simp only
 have w1:Region.wanted o (yielded ops a.tmps)=true:=by unfold Region.wanted;rw[hg]
 rw[if_pos w1]
 refine .inl ?_
 unfold Oper.wp
 rw[hr]
 exact hK
end step
theorem clearOf_spec {ops:List Oper} {y:Clr} (h:clearOf ops=some y):∃ o1 o2 o3 o4 c,ops=[o1,o2,o3,o4]∧o1.op=.move (.tmp y.s)∧o2.op=.move (.tmp y.i)∧o3.op=.slice y.ty (.tmp y.x) (some (.tmp y.y)) none none∧o4.op=.call c∧
  c.callee=.builtin .clear∧c.args=#[.tmp y.u]∧c.argTypes=#[y.ty]∧o1.dst=some y.x∧o2.dst=some y.y∧o3.dst=some y.u∧o4.dst=none∧y.x≠y.y∧y.x≠y.i∧o1.guard=none∧o2.guard=none∧o3.guard=none∧o4.guard=none:=by
 unfold clearOf at h
 split at h
 ·rename_i o1 o2 o3 o4
  split at h
  ·rename_i s i ty x yy c h1 h2 h3 h4
   split at h
   ·rename_i u ty' h5 h6 h7
    split at h
    ·rename_i hc
     obtain⟨c1,c2,c3,c4,rfl,c6,c7,c8,c9,c10,c11⟩:=hc
     simp only[Option.some.injEq] at h
     subst h
     refine⟨o1,o2,o3,o4,c,rfl,h1,h2,h3,h4,h5,Array.ext' (by simpa using h6),Array.ext' (by simpa using h7),c1,c2,c3,c4,c6,c7,by simpa using c8,by simpa using c9,by simpa using c10,by simpa using c11⟩
    ·simp at h
   ·simp at h
  ·simp at h
 ·simp at h
theorem zeros_els {sz:TypeId→Nat} {h:Array Obj} {e:TypeId} {zero:List T} {zc:Array Value} {n s:Nat} (hz:okL sz h (fun _=>False) zero zc.toList []) (h1:zero.length=s) (h2:zc.size=s):
  okEs sz h (fun _=>False) s (List.replicate n zero) (Builtin.zeroCells zc n).toList []∧(Builtin.zeroCells zc n).toList.length=n*s:=by
 refine⟨okEs_replicate hz h1 (by simpa using h2) _ (fun j hj=>?_),?_⟩
 ·have:=zeros_row (zero:=zc) (m:=n) h2 j hj
  simpa[Builtin.zeroCells,h2] using this
 ·simp[Builtin.zeroCells,h2]
theorem Act.put_get {a:Act} {d d':Tmp} {v:Value} (h:d'≠d):(a.put (some d) v).tmps[d']?=a.tmps[d']?:=by
 simp only[Act.put]
 rw[Array.getElem?_setIfInBounds]
 rw[if_neg (Ne.symm h)]
theorem Act.put_eval {a:Act} {d:Tmp} {v:Value} (h:d<a.tmps.size):(a.put (some d) v).eval (.tmp d)=v:=by
 simp[Act.put,Act.eval,h]
theorem Act.put_eval_ne {a:Act} {d d':Tmp} {v:Value} (h:d'≠d):(a.put (some d) v).eval (.tmp d')=a.eval (.tmp d'):=by
 simp only[Act.eval,Array.getD_eq_getD_getElem?]
 rw[Act.put_get h]
theorem lk_without {α:Type} {ds:List Nat}:∀ {l:List (Nat×α)} {d:Nat} {t:α},lk (without ds l) d=some t→d∉ds
 | [],d,t,h=>by simp[without,lk] at h
 | (k,x)::r,d,t,h=>by
  simp only[without] at h
  split at h
  ·exact lk_without h
  ·rename_i hk
   simp only[lk] at h
   split at h
   ·rename_i he
    subst he
    simpa using hk
   ·exact lk_without h
section clear
variable {E:Env} {z:Zn} {L:Lnt} {st st':St} {gh:Nat→G} {w:World} {FS:List Nat} {a:Act} {Q:Exit→Act→World→Prop} {ops:Array Oper} {y:Clr}
theorem clear_ok (ht:TiOk E) (h:At E z L st gh w FS a) (hy:clearOf ops.toList=some y) (he:evClear E y st=some st') (hK:∀ gh' w' FS' a',At E z L st' gh' w' FS' a'→Q .normal a' w') {id:Nat}:(Code.region id ops false).wp E.P Q a w:=by
 obtain⟨o1,o2,o3,o4,cl,hops,p1,p2,p3,p4,p5,p6,p7,d1,d2,d3,d4,n1,n2,g1,g2,g3,g4⟩:=clearOf_spec hy
 have hops:ops=#[o1,o2,o3,o4]:=Array.ext' (by simpa using hops)
 subst hops
 unfold evClear at he
 split at he
 ·rename_i d ver c n k e hs hi hel
  split at he
  ·rename_i ie r hie hr
   split at he
   ·rename_i e' es hc
    split at he
    ·rename_i hcond
     obtain⟨c1,rfl,rfl,c4,c5,c6,c7,c8,c9,c10⟩:=hcond
     simp only[Option.some.injEq] at he
     obtain⟨k,rfl⟩:=Int.eq_ofNat_of_zero_le c4
     have hk:k<es.length:=by omega
     simp only[Int.toNat_natCast] at he
     obtain⟨us,q1,q2,q3⟩:=h.frame.tmp y.s _ hs
     obtain⟨ui,q4,q5,_⟩:=h.frame.tmp y.i _ hi
     have hui:ui=.int .i64 k:=okX_v.1 q5
     subst hui
     have q2':okX0 ⟨szOf E,w.heap,Inow z w (FS++[]),st.rt,gh⟩ (.ref d ver [] c es.length) us:=q2
     have hu:(gh d).vals[c]?=some us:=q2'.2 r hr c1 r.cells _ _ rfl e' es hc rfl
     obtain⟨tiy,hty,htel⟩:∃ tiy,E.ti y.ty=some tiy∧tiy.elem=some e':=by
      cases hx:E.ti y.ty with
      | none=>rw[hx] at hel;simp at hel
      | some tiy=>rw[hx] at hel;exact⟨tiy,rfl,hel⟩
     have hul:=(ht _ _ hty).elem e' htel
     have hsz:szOf E e'=ie.size:=by simp[szOf,hie]
     obtain⟨inf,zc,i1,i2,i3,i4,i5,i6,i7,i8⟩:=(ht _ _ hie).info
     have hzv:∀ w,(zeroValue e').run E.P w=.ok zc w:=fun w=>by simp[zeroValue,run_typeInfo i1,i4]
     obtain⟨m1,m2⟩:=zeros_els (sz:=szOf E) (h:=w.heap) (e:=e') (n:=es.length - k) (i7 w.heap _) i6 i5
     obtain⟨b,o,cap,arr,el,fz,rfl,hcap,hb,hfz,hfit,FS',r1,kp⟩:=h.heap.strike (tick:=st.tick) (zero:=ie.zero) (zs:=(Builtin.zeroCells zc.cells (es.length - k)).toList) hr hc hu hk c6 c7 (by rw[hsz];exact m1) (by rw[hsz];exact m2) (by rw[hsz];exact i6)
     rw[hsz] at r1 kp hfit
     have hmul:k*ie.size+(es.length - k)*ie.size=es.length*ie.size:=by rw[←Nat.add_mul];congr 1;omega
     have hmul2:es.length*ie.size≤cap*ie.size:=Nat.mul_le_mul_right _ hcap
     have e1:a.eval (.tmp y.s)=.slice (some ⟨b,o,none⟩) es.length cap:=by simp[Act.eval,q1]
     have e2:a.eval (.tmp y.i)=.int .i64 k:=by simp[Act.eval,q4]
     have sza:a.tmps.size=st.n:=h.frame.size
     have hrun:∀ w0,(Instr.sliceAt y.ty (.slice (some ⟨b,o,none⟩) es.length cap) (some (.int .i64 k)) none none).run E.P w0=.ok (.slice (some ⟨b,o+k*ie.size,none⟩) (es.length - k) (cap - k)) w0:=fun w0=>by
      have hbd:=sliceBounds2 (P:=E.P) (lo:=some (.int .i64 k)) (hi:=none) (len:=es.length) (cap:=cap) (l:=k) (h:=es.length) (.inr ⟨_,rfl⟩) (.inl ⟨rfl,rfl⟩) c4 (by omega) (Int.le_refl _) hcap w0
      obtain⟨mm,hm⟩:=szE ht hty htel w0
      simp only[Instr.sliceAt,Sem.run_bind,run_underlying hul,Result.andThen_ok,Instr.slice,hbd,hm.1]
      have hne:¬ (cap=k):=by omega
      simp[hne,addr_add,←hm.2,hsz]
     have hfin:∀ a',a'.tmps.size=a.tmps.size→a'.defers=a.defers→(∀ d',d'∉[y.x,y.y,y.u]→a'.tmps[d']?=a.tmps[d']?)→Q .normal a' (stores w b (o+k*ie.size) (Builtin.zeroCells zc.cells (es.length - k)).toList):=fun a' hz1 hz2 hz3=>by
      refine hK gh _ FS' a' ?_
      subst he
      refine⟨⟨r1,?_,⟨hz1.trans sza,hz2.trans h.frame.defers,fun d' t hl=>?_⟩⟩,(without_part _ _).srt h.srt,fun p hp=>⟨kp.x (h.lent p hp).2 (h.lent p hp).1,stX_mono (fun x s hx=>?_) (h.lent p hp).2⟩,h.shape,h.tk,spine_step kp h.tk h.spine⟩
      ·intro d' r' hl
       by_cases hd:d'=d
       ·subst hd
        rw[lk_up_self] at hl
        simp only[Option.some.injEq] at hl
        subst hl
        exact h.vers d' r hr
       ·rw[lk_up_ne _ _ _ _ hd] at hl
        exact h.vers d' r' hl
      ·have hnd:=lk_without hl
       obtain⟨u,t1,t2,t3⟩:=h.frame.tmp d' t ((without_part _ st.fr).lk h.srt hl)
       exact⟨u,by rw[hz3 d' hnd];exact t1,kp.x t3 t2,stX_mono (fun x s hx=>by
        refine⟨hx.1,fun he=>?_⟩
        obtain⟨r0,hr0,hv⟩:=hx.2 he
        by_cases hd:x=d
        ·subst hd
         rw[hr] at hr0
         simp only[Option.some.injEq] at hr0
         subst hr0
         exact⟨_,lk_up_self _ _ _,hv⟩
        ·exact⟨r0,by rw[lk_up_ne _ _ _ _ hd];exact hr0,hv⟩) t3⟩
      ·refine⟨hx.1,fun he=>?_⟩
       obtain⟨r0,hr0,hv⟩:=hx.2 he
       by_cases hd:x=d
       ·subst hd
        rw[hr] at hr0
        simp only[Option.some.injEq] at hr0
        subst hr0
        exact⟨_,lk_up_self _ _ _,hv⟩
       ·exact⟨r0,by rw[lk_up_ne _ _ _ _ hd];exact hr0,hv⟩
     have hclr:(Builtin.clear_ #[y.ty] o4.type #[.slice (some ⟨b,o+k*ie.size,none⟩) (es.length - k) (cap - k)]).run E.P w=.ok (.tuple #[]) (stores w b (o+k*ie.size) (Builtin.zeroCells zc.cells (es.length - k)).toList):=by
      have hst:=run_storeCells_ok (P:=E.P) (b:=b) (o:=o+k*ie.size) (el:=el) (fz:=fz) (vs:=(Builtin.zeroCells zc.cells (es.length - k)).toList) (i:=0) (w:=w) (arr:=arr) hb (by rw[m2];omega) hfz (okEs_one1 m1 (by
       rw[List.all_eq_true]
       intro c hc
       rw[List.eq_of_mem_replicate hc,List.all_eq_true]
       intro t ht
       have:=List.all_eq_true.1 c7 t ht
       cases t<;>simp only[plainCell] at this<;>first | (simp at this;done) | exact this) (by rw[m2,List.length_replicate]))
      rw[Nat.add_zero] at hst
      obtain⟨mm,hmm⟩:∃ mm,es.length - k=mm+1:=⟨es.length - k - 1,by omega⟩
      rw[hmm] at hst ⊢
      simp only[Builtin.clear_,List.getElem?_toArray,List.getElem?_cons_zero,Sem.run_bind,run_underlying hul,Result.andThen_ok,hzv,hst,Sem.run_pure]
     have hx0:y.x<a.tmps.size:=by omega
     have hy0:∀ v,y.y<(a.put (some y.x) v).tmps.size:=fun v=>by rw[Act.put_size];omega
     have hu0:∀ v v',y.u<((a.put (some y.x) v).put (some y.y) v').tmps.size:=fun v v'=>by rw[Act.put_size,Act.put_size];omega
     refine wp_region ?_
     show wpOps E.P #[o1,o2,o3,o4] _ [0,1,2,3] a w
     refine step_one (o:=o1) (v:=.slice (some ⟨b,o,none⟩) es.length cap) (w':=w) rfl g1 (by simp only[execOp,p1,e1];rfl) ?_
     rw[d1]
     refine step_one (o:=o2) (v:=.int .i64 k) (w':=w) rfl g2 (by simp only[execOp,p2];rw[Act.put_eval_ne (Ne.symm n2),e2];rfl) ?_
     rw[d2]
     refine step_one (o:=o3) (v:=.slice (some ⟨b,o+k*ie.size,none⟩) (es.length - k) (cap - k)) (w':=w) rfl g3 (by
      simp only[execOp,p3,Option.map_some,Option.map_none]
      rw[Act.put_eval_ne n1,Act.put_eval hx0,Act.put_eval (hy0 _),Sem.run_bind,hrun w]
      rfl) ?_
     rw[d3]
     refine step_one (o:=o4) (v:=.tuple #[]) rfl g4 (by
      simp only[execOp,p4,resolve,p5,invoke,builtin,p6,p7,Sem.run_bind,Sem.run_pure,Result.andThen_ok,List.map_toArray,List.map_cons,List.map_nil]
      rw[Act.put_eval (hu0 _ _),hclr]
      rfl) ?_
     rw[d4]
     refine hfin _ (by simp[Act.put]) (by simp[Act.put]) fun d' hd'=>?_
     simp only[List.mem_cons,List.not_mem_nil,or_false,not_or] at hd'
     show ((((a.put (some y.x) _).put (some y.y) _).put (some y.u) _)).tmps[d']?=_
     rw[Act.put_get hd'.2.2,Act.put_get hd'.2.1,Act.put_get hd'.1]
    ·simp at he
   ·simp at he
  ·simp at he
 ·simp at he
end clear
def maskOf (acc:List Nat):List Edge→Nat
 | []=>0
 | e::es=>(if Region.binds .any e then 2 ^ e.on ||| acc.getD e.on 0 else 0) ||| maskOf acc es
def masks:List Oper→List Nat→List Nat
 | [],acc=>acc
 | o::r,acc=>masks r (acc++[maskOf acc o.after.toList])
def opCls:Op→Nat
 | .move _ | .pick .. | .nilCheck _ | .binOp .. | .unOp .. | .fieldAddr .. | .field .. | .extract .. | .index ..=>0
 | .load .. | .indexAddr ..=>1
 | .call c=>match c.callee with
  | .builtin .len=>0
  | .builtin .min=>0
  | .builtin .max=>0
  | _=>2
 | _=>2
def sideBySide (a b:Op):Bool:=opCls a==0||opCls b==0||(opCls a==1&&opCls b==1)
def drawRow (ops:Array Oper) (ms:List Nat) (ps:List (Nat×Nat)) (j:Nat) (oj:Oper):Nat→Bool
 | 0=>true
 | i+1=>(match ops[i]? with
  | some oi=>(ms.getD j 0).testBit i||(oi.apart ops oj&&(ps.contains (i,j)||sideBySide oi.op oj.op))
  | none=>false)&&drawRow ops ms ps j oj i
def drawCols (ops:Array Oper) (ms:List Nat) (ps:List (Nat×Nat)):Nat→List Oper→Bool
 | _,[]=>true
 | j,oj::r=>oj.after.toList.all (fun e=>!Region.binds .any e||decide (e.on<j))&&drawRow ops ms ps j oj j&&drawCols ops ms ps (j+1) r
def drawOk (ops:Array Oper) (ps:List (Nat×Nat)):Bool:=drawCols ops (masks ops.toList []) ps 0 ops.toList
theorem maskOf_bit {acc:List Nat} {m:Nat}:∀ {es:List Edge},(maskOf acc es).testBit m=true→∃ e,e∈es∧Region.binds .any e=true∧(e.on=m∨(acc.getD e.on 0).testBit m=true)
 | [],h=>by simp[maskOf] at h
 | e::es,h=>by
  simp only[maskOf,Nat.testBit_or,Bool.or_eq_true] at h
  rcases h with h | h
  ·split at h
   ·rename_i hb
    simp only[Nat.testBit_or,Bool.or_eq_true] at h
    refine⟨e,by simp,hb,?_⟩
    rcases h with h | h
    ·rw[Nat.testBit_two_pow] at h;exact .inl (by simpa using h)
    ·exact .inr h
   ·simp at h
  ·obtain⟨e',h1,h2⟩:=maskOf_bit h
   exact⟨e',by simp[h1],h2⟩
theorem masks_pre:∀ (l:List Oper) (acc:List Nat) (k:Nat),k<acc.length→(masks l acc).getD k 0=acc.getD k 0
 | [],acc,k,_=>rfl
 | o::r,acc,k,h=>by
  simp only[masks]
  rw[masks_pre r _ k (by simp;omega)]
  simp[List.getElem?_append_left h]
theorem masks_bit:∀ (l:List Oper) (acc:List Nat) (k:Nat) (o:Oper),l[k]?=some o→∀ m,((masks l acc).getD (acc.length+k) 0).testBit m=true→
  ∃ e,e∈o.after.toList∧Region.binds .any e=true∧(e.on=m∨((masks l acc).getD e.on 0).testBit m=true)
 | [],acc,k,o,h,m,hb=>by simp at h
 | x::r,acc,0,o,h,m,hb=>by
  simp only[List.getElem?_cons_zero,Option.some.injEq] at h;subst h
  simp only[masks] at hb ⊢
  rw[masks_pre _ _ _ (by simp)] at hb
  simp only[Nat.add_zero,List.getD_eq_getElem?_getD,List.getElem?_concat_length,Option.getD_some] at hb
  obtain⟨e,h1,h2,h3⟩:=maskOf_bit hb
  refine⟨e,h1,h2,?_⟩
  rcases h3 with h3 | h3
  ·exact .inl h3
  ·refine .inr ?_
   have hlt:e.on<acc.length:=by
    rcases Nat.lt_or_ge e.on acc.length with h' | h'
    ·exact h'
    ·simp[List.getElem?_eq_none h'] at h3
   rw[masks_pre _ _ _ (by simp;omega)]
   simpa[List.getElem?_append_left hlt] using h3
 | x::r,acc,k+1,o,h,m,hb=>by
  simp only[List.getElem?_cons_succ] at h
  simp only[masks] at hb ⊢
  have:=masks_bit r (acc++[maskOf acc x.after.toList]) k o h m (by
   have e:(acc++[maskOf acc x.after.toList]).length+k=acc.length+(k+1):=by simp;omega
   rw[e];exact hb)
  exact this
theorem drawRow_spec {ops:Array Oper} {ms ps} {j:Nat} {oj:Oper}:∀ {n},drawRow ops ms ps j oj n=true→∀ i,i<n→∃ oi,ops[i]?=some oi∧
  ((ms.getD j 0).testBit i=true∨(oi.apart ops oj=true∧(ps.contains (i,j)=true∨sideBySide oi.op oj.op=true)))
 | 0,_,i,hi=>by omega
 | n+1,h,i,hi=>by
  simp only[drawRow,Bool.and_eq_true] at h
  by_cases hin:i=n
  ·subst hin
   have h1:=h.1
   split at h1
   ·rename_i oi hoi
    refine⟨oi,hoi,?_⟩
    simpa only[Bool.or_eq_true,Bool.and_eq_true] using h1
   ·simp at h1
  ·exact drawRow_spec h.2 i (by omega)
theorem drawCols_spec {ops:Array Oper} {ms ps}:∀ {l:List Oper} {j0:Nat},drawCols ops ms ps j0 l=true→∀ k oj,l[k]?=some oj→
  (∀ e,e∈oj.after.toList→Region.binds .any e=true→e.on<j0+k)∧drawRow ops ms ps (j0+k) oj (j0+k)=true
 | [],j0,_,k,oj,hk=>by simp at hk
 | o::r,j0,h,0,oj,hk=>by
  simp only[List.getElem?_cons_zero,Option.some.injEq] at hk;subst hk
  simp only[drawCols,Bool.and_eq_true,List.all_eq_true,Bool.or_eq_true,Bool.not_eq_true',decide_eq_true_eq] at h
  refine⟨fun e he hb=>?_,h.1.2⟩
  rcases h.1.1 e he with h1 | h1
  ·rw[hb] at h1;simp at h1
  ·exact h1
 | o::r,j0,h,k+1,oj,hk=>by
  simp only[List.getElem?_cons_succ] at hk
  simp only[drawCols,Bool.and_eq_true] at h
  have:=drawCols_spec h.2 k oj hk
  have e:j0+1+k=j0+(k+1):=by omega
  rw[e] at this
  exact this
section runs
variable {E:Env} {call:FuncId→List Arg→Option Res} {me:FuncId} {ops:Array Oper}
def RunsTo (E:Env) (call:FuncId→List Arg→Option Res) (me:FuncId) (ops:Array Oper) (φ:Nat→Eff×List Tch):List Nat→St→St→Prop
 | [],s,F=>s=F
 | i::l,s,F=>∃ o s',ops[i]?=some o∧effOf E call me ops.toList s o=some (φ i)∧s.apply o.dst (φ i).1=some s'∧RunsTo E call me ops φ l s' F
theorem RunsTo.congr {φ ψ:Nat→Eff×List Tch}:∀ {l:List Nat} {s F},(∀ i,i∈l→φ i=ψ i)→RunsTo E call me ops φ l s F→RunsTo E call me ops ψ l s F
 | [],s,F,_,h=>h
 | i::l,s,F,hc,h=>by
  obtain⟨o,s',h1,h2,h3,h4⟩:=h
  have hi:=hc i (by simp)
  exact⟨o,s',h1,by rw[←hi];exact h2,by rw[←hi];exact h3,RunsTo.congr (fun k hk=>hc k (by simp[hk])) h4⟩
def Conf (ops:Array Oper) (φ:Nat→Eff×List Tch) (i j:Nat):Prop:=
 ∀ oi oj,ops[i]?=some oi→ops[j]?=some oj→oi.apart ops oj=true∧clash (mkFoot oi (φ i)) (mkFoot oj (φ j))=false
theorem apply_srt {st st':St} {dst:Option Tmp} {e:Eff} (h:st.apply dst e=some st') (h1:Srt st.fr) (h2:Srt st.rt):Srt st'.fr∧Srt st'.rt:=by
 obtain⟨_,rfl⟩:=apply_iff.1 h
 exact⟨frOf_srt h1,rtOf_srt h2⟩
theorem RunsTo.front {φ:Nat→Eff×List Tch} {i:Nat} {M2:List Nat}:∀ {M1:List Nat} {s F},Srt s.fr→Srt s.rt→(∀ m,m∈M1→Conf ops φ m i)→
  RunsTo E call me ops φ (M1++i::M2) s F→RunsTo E call me ops φ (i::(M1++M2)) s F
 | [],s,F,_,_,_,h=>h
 | m::M1,s,F,hs,hs',hc,h=>by
  obtain⟨o,s1,h1,h2,h3,h4⟩:=h
  obtain⟨q1,q2⟩:=apply_srt h3 hs hs'
  obtain⟨o',s2,g1,g2,g3,g4⟩:=RunsTo.front q1 q2 (fun k hk=>hc k (by simp[hk])) h4
  obtain⟨c1,c2⟩:=hc m (by simp) o o' h1 g1
  obtain⟨s1',w1,w2,w3,w4⟩:=swap hs hs' c1 c2 h2 h3 g2 g3
  exact⟨o',s1',g1,w1,w2,o,s2,h1,w3,w4,g4⟩
theorem evFeet_runs {ps:List (Nat×Nat)}:∀ {l:List Oper} {i:Nat} {st F:St} {fs:List (Nat×Foot)},(∀ k,l[k]?=ops[i+k]?)→evFeet E call me ops.toList ps i l st=some (F,fs)→
  ∃ φ,RunsTo E call me ops φ (List.range' i l.length) st F∧∀ k f,lk fs k=some f→i≤k∧∃ o,ops[k]?=some o∧f=mkFoot o (φ k)
 | [],i,st,F,fs,hl,h=>by
  simp only[evFeet,Option.some.injEq,Prod.mk.injEq] at h
  obtain⟨rfl,rfl⟩:=h
  exact⟨fun _=>({ val:=.dead },[]),rfl,fun k f hk=>by simp[lk] at hk⟩
 | o::r,i,st,F,fs,hl,h=>by
  simp only[evFeet] at h
  split at h
  ·rename_i st' h1
   split at h
   ·rename_i F' fs' h2
    simp only[Option.some.injEq,Prod.mk.injEq] at h
    obtain⟨rfl,rfl⟩:=h
    obtain⟨p,e1,e2⟩:=evOne_iff.1 h1
    have ho:ops[i]?=some o:=by have:=hl 0;simpa using this.symm
    obtain⟨φ,g1,g2⟩:=evFeet_runs (i:=i+1) (fun k=>by
     have:=hl (k+1)
     simp only[List.getElem?_cons_succ] at this
     rw[this];congr 1;omega) h2
    refine⟨fun k=>if k=i then p else φ k,?_,fun k f hk=>?_⟩
    ·simp only[List.length_cons,List.range'_succ]
     refine⟨o,st',ho,by simp only[if_true];exact e1,by simp only[if_true];exact e2,?_⟩
     refine RunsTo.congr (fun k hk=>?_) g1
     have:i+1≤k:=(List.mem_range'_1.1 hk).1
     rw[if_neg (by omega)]
    ·have tail:lk fs' k=some f→i≤k∧∃ o,ops[k]?=some o∧f=mkFoot o (if k=i then p else φ k):=fun hk=>by
      obtain⟨q1,q2⟩:=g2 k f hk
      rw[if_neg (by omega)]
      exact⟨by omega,q2⟩
     split at hk
     ·simp only[lk] at hk
      split at hk
      ·rename_i hik
       subst hik
       simp only[Option.some.injEq] at hk;subst hk
       exact⟨Nat.le_refl _,o,ho,by simp only[if_true];exact footOf_eq e1⟩
      ·exact tail hk
     ·exact tail hk
   ·simp at h
  ·simp at h
theorem evOps_feet:∀ {l:List Oper} {i:Nat} {st F:St},evOps E call me ops.toList l st=some F→evFeet E call me ops.toList [] i l st=some (F,[])
 | [],i,st,F,h=>by simp only[evOps,Option.some.injEq] at h;subst h;rfl
 | o::r,i,st,F,h=>by
  simp only[evOps] at h
  simp only[evFeet]
  split at h
  ·rename_i st' h1
   rw[evOps_feet (i:=i+1) h]
   rfl
  ·simp at h
def Still {α:Type} (x:Rd α):Prop:=x=.fail∨∃ a,x=.ret a
theorem Still.of {α:Type} {o:Option α}:Still (Rd.of o):=by
 cases o with
 | none=>exact .inl rfl
 | some a=>exact .inr ⟨a,rfl⟩
theorem Still.bind {α β:Type} {x:Rd α} {k:α→Rd β} (h:Still x) (hk:∀ a,Still (k a)):Still (x.bind k):=by
 rcases h with rfl | ⟨a,rfl⟩
 ·exact .inl rfl
 ·exact hk a
theorem Still.ret {α:Type} {a:α}:Still (Rd.ret a):=.inr ⟨a,rfl⟩
theorem Still.fail {α:Type}:Still (Rd.fail:Rd α):=.inl rfl
theorem Still.args {val:Operand→Option T}:∀ {xs:List Operand},Still (TM.args val xs)
 | []=>.ret
 | x::xs=>by
  simp only[TM.args]
  exact Still.of.bind fun t=>(Still.args (xs:=xs)).bind fun ts=>.ret
def Mute (x:Rd Eff):Prop:=x=.fail∨∃ v,x=.ret { val:=v }
theorem Mute.bind {α:Type} {x:Rd α} {k:α→Rd Eff} (h:Still x) (hk:∀ a,Mute (k a)):Mute (x.bind k):=by
 rcases h with rfl | ⟨a,rfl⟩
 ·exact .inl rfl
 ·exact hk a
theorem Mute.ret {v:T}:Mute (.ret { val:=v }):=.inr ⟨v,rfl⟩
theorem Mute.fail:Mute .fail:=.inl rfl
theorem Mute.plain {s:Sem Value}:Mute (plainEff E s):=by unfold plainEff;exact Mute.bind Still.of fun _=>.ret
theorem mute_evOp {val:Operand→Option T} {tick d:Nat} {ty0:TypeId} {op:Op} (h:opCls op=0):Mute (evOp E call me val tick d ty0 op):=by
 cases op<;>simp only[opCls] at h<;>try (simp at h;done)
 case move x=>simp only[evOp];exact Mute.bind .of fun _=>.ret
 case pick c a b=>
  simp only[evOp]
  refine Mute.bind .of fun _=>Mute.bind .of fun _=>Mute.bind .of fun _=>?_
  split
  ·exact .ret
  ·exact .fail
 case nilCheck x=>
  simp only[evOp]
  refine Mute.bind .of fun _=>?_
  split
  ·exact .ret
  ·exact .ret
  ·exact .fail
 case binOp=>
  simp only[evOp]
  refine Mute.bind .of fun _=>?_
  split
  ·refine Mute.bind .of fun _=>Mute.bind .of fun _=>?_
   unfold notNil
   split
   ·split
    ·exact .ret
    ·exact .fail
   ·exact .fail
  ·exact Mute.bind .of fun _=>Mute.bind .of fun _=>.plain
 case unOp=>simp only[evOp];exact Mute.bind .of fun _=>.plain
 case fieldAddr=>
  simp only[evOp]
  refine Mute.bind .of fun _=>Mute.bind .of fun _=>Mute.bind .of fun _=>?_
  split
  ·exact .fail
  ·split
   ·exact .ret
   ·exact .ret
   ·exact .fail
 case field=>
  simp only[evOp]
  refine Mute.bind .of fun _=>Mute.bind .of fun _=>Mute.bind .of fun _=>Mute.bind .of fun _=>?_
  split
  ·split
   ·split
    ·exact .ret
    ·split
     ·split
      ·exact .ret
      ·exact .fail
     ·exact .fail
   ·exact .fail
  ·exact .fail
 case index=>simp only[evOp];exact Mute.bind .of fun _=>Mute.bind .of fun _=>.plain
 case extract=>
  simp only[evOp]
  refine Mute.bind .of fun _=>?_
  split
  ·exact Mute.bind .of fun _=>.ret
  ·exact Mute.bind .of fun _=>.ret
  ·exact .fail
 case call c=>
  cases hc:c.callee with
  | value g=>rw[hc] at h;simp at h
  | invoke r m=>rw[hc] at h;simp at h
  | builtin b=>
   rw[hc] at h
   cases b<;>simp at h<;>simp only[evOp,hc]
   ·refine Mute.bind .args fun _=>?_
    split
    ·split
     ·refine Mute.bind .of fun _=>?_
      split
      ·exact .ret
      ·exact .fail
     ·exact Mute.bind .of fun _=>.plain
    ·exact .fail
   all_goals exact Mute.bind .args fun _=>Mute.bind .of fun _=>.plain
theorem load_evOp {val:Operand→Option T} {tick d:Nat} {ty0:TypeId} {op:Op} {rt:List (Nat×Root)} {e:Eff} (h:opCls op=1)
  (he:(evOp E call me val tick d ty0 op).run rt=some e):e.sets=[]∧e.root=none:=by
 cases op<;>simp only[opCls] at h<;>try (simp at h;done)
 case load ty a=>
  simp only[evOp] at he
  obtain⟨t,_,he⟩:=run_bind he
  obtain⟨t',_,he⟩:=run_bind he
  simp only[Rd.run,Option.some.injEq] at he;subst he
  exact⟨rfl,rfl⟩
 case indexAddr ty x ix=>
  simp only[evOp] at he
  split at he
  ·obtain⟨t,_,he⟩:=run_bind he
   split at he
   ·split at he
    ·simp only[Rd.run,Option.some.injEq] at he;subst he;exact⟨rfl,rfl⟩
    ·simp[Rd.run] at he
   ·simp[Rd.run] at he
  obtain⟨t,_,he⟩:=run_bind he
  obtain⟨t1,_,he⟩:=run_bind he
  obtain⟨t2,_,he⟩:=run_bind he
  obtain⟨t3,_,he⟩:=run_bind he
  obtain⟨t4,_,he⟩:=run_bind he
  split at he
  ·obtain⟨t5,_,he⟩:=run_bind he
   split at he
   ·simp only[Rd.run,Option.some.injEq] at he;subst he;exact⟨rfl,rfl⟩
   ·simp[Rd.run] at he
  ·split at he
   ·split at he
    ·split at he
     ·simp only[Rd.run,Option.some.injEq] at he;subst he;exact⟨rfl,rfl⟩
     ·simp[Rd.run] at he
    ·simp[Rd.run] at he
   ·simp[Rd.run] at he
  ·simp[Rd.run] at he
 case call c=>
  exfalso
  cases hc:c.callee with
  | value g=>rw[hc] at h;simp at h
  | invoke r m=>rw[hc] at h;simp at h
  | builtin b=>rw[hc] at h;cases b<;>simp at h
theorem mute_eff {st:St} {o:Oper} {p:Eff×List Tch} (h:opCls o.op=0) (he:effOf E call me ops.toList st o=some p):p.1.sets=[]∧p.1.root=none∧p.2=[]:=by
 unfold effOf at he
 split at he
 ·split at he
  ·rename_i e h1
   simp only[Option.some.injEq] at he;subst he
   rcases mute_evOp (E:=E) (call:=call) (me:=me) (val:=St.val st.fr) (tick:=st.tick) (d:=o.dst.getD 0) (ty0:=o.type) h with h2 | ⟨v,h2⟩
   ·rw[h2] at h1;simp[Rd.run] at h1
   ·rw[h2] at h1 ⊢
    simp only[Rd.run,Option.some.injEq] at h1;subst h1
    exact⟨rfl,rfl,rfl⟩
  ·simp at he
 ·simp only[Option.some.injEq] at he;subst he;exact⟨rfl,rfl,rfl⟩
 ·simp at he
theorem load_eff {st:St} {o:Oper} {p:Eff×List Tch} (h:opCls o.op=1) (he:effOf E call me ops.toList st o=some p):p.1.sets=[]∧p.1.root=none:=by
 unfold effOf at he
 split at he
 ·split at he
  ·rename_i e h1
   simp only[Option.some.injEq] at he;subst he
   exact load_evOp h h1
  ·simp at he
 ·simp only[Option.some.injEq] at he;subst he;exact⟨rfl,rfl⟩
 ·simp at he
theorem setsHit_nil:∀ (ss:List CSet),setsHit ss []=false
 | []=>rfl
 | _::ss=>by simp[setsHit,setHits,setsHit_nil ss]
theorem setsMeet_nil:∀ (ss:List CSet),setsMeet ss []=false
 | []=>rfl
 | _::ss=>by simp[setsMeet,apartFrom,setsMeet_nil ss]
theorem clash_side {oi oj:Oper} {pi pj:Eff×List Tch} (h:sideBySide oi.op oj.op=true)
  (hi0:opCls oi.op=0→pi.1.sets=[]∧pi.1.root=none∧pi.2=[]) (hj0:opCls oj.op=0→pj.1.sets=[]∧pj.1.root=none∧pj.2=[])
  (hi1:opCls oi.op=1→pi.1.sets=[]∧pi.1.root=none) (hj1:opCls oj.op=1→pj.1.sets=[]∧pj.1.root=none):
  clash (mkFoot oi pi) (mkFoot oj pj)=false:=by
 simp only[sideBySide,Bool.or_eq_true,beq_iff_eq,Bool.and_eq_true] at h
 rcases h with (h | h) | h
 ·obtain⟨h1,h2,h3⟩:=hi0 h
  simp[clash,upsets,mkFoot,h1,h2,h3,setsHit,setsHit_nil,layHits,layMeets,setsMeet]
 ·obtain⟨h1,h2,h3⟩:=hj0 h
  simp[clash,upsets,mkFoot,h1,h2,h3,setsHit,setsHit_nil,layHits,layMeets,setsMeet_nil]
 ·obtain⟨h1,h2⟩:=hi1 h.1
  obtain⟨h3,h4⟩:=hj1 h.2
  simp[clash,upsets,mkFoot,h1,h2,h3,h4,setsHit,setsMeet]
theorem noClash_spec {fs:List (Nat×Foot)}:∀ {ps:List (Nat×Nat)},noClash fs ps=true→∀ i j,(i,j)∈ps→∃ f g,lk fs i=some f∧lk fs j=some g∧clash f g=false
 | [],_,i,j,h=>by simp at h
 | (i0,j0)::ps,h,i,j,hm=>by
  simp only[noClash,Bool.and_eq_true] at h
  rcases List.mem_cons.1 hm with hm | hm
  ·simp only[Prod.mk.injEq] at hm
   obtain⟨rfl,rfl⟩:=hm
   have h1:=h.1
   split at h1
   ·rename_i f g hf hg
    exact⟨f,g,hf,hg,by simpa using h1⟩
   ·simp at h1
  ·exact noClash_spec h.2 i j hm
theorem RunsTo.eff {φ:Nat→Eff×List Tch}:∀ {l:List Nat} {s F},RunsTo E call me ops φ l s F→∀ i,i∈l→∃ o s',ops[i]?=some o∧effOf E call me ops.toList s' o=some (φ i)
 | [],s,F,_,i,hi=>by simp at hi
 | k::l,s,F,h,i,hi=>by
  obtain⟨o,s',h1,h2,h3,h4⟩:=h
  rcases List.mem_cons.1 hi with rfl | hi
  ·exact⟨o,s,h1,h2⟩
  ·exact RunsTo.eff h4 i hi
theorem listed_filter {listed:Array Bool} {i n:Nat}:(List.range n).filter (fun k=>!(listed.setIfInBounds i true).getD k true)=((List.range n).filter (fun k=>!listed.getD k true)).filter (· != i):=by
 rw[List.filter_filter]
 refine List.filter_congr fun k _=>?_
 by_cases hk:i=k
 ·subst hk
  rcases Nat.lt_or_ge i listed.size with h | h
  ·simp[h]
  ·simp[Nat.not_lt.2 h]
 ·rw[getD_set_ne true hk]
  simp[Ne.symm hk]
variable {z:Zn} {L:Lnt}
theorem any_ok {φ:Nat→Eff×List Tch} {Q:Exit→Act→World→Prop} (ht:TiOk E) (hcall:∀ f args r,call f args=some r→Sound E f args r∧Enters E f) {F:St}
  (hconf:∀ i j,i<j→j<ops.size→((masks ops.toList []).getD j 0).testBit i=false→Conf ops φ i j)
  (hback:∀ j o,ops[j]?=some o→∀ e,e∈o.after→Region.binds .any e=true→e.on<j)
  (hK:∀ gh' w' FS' a',At E z L F gh' w' FS' a'→Q .normal a' w'):
  ∀ (fuel:Nat) (listed:Array Bool) {st:St} {gh w FS a},
   ((List.range ops.size).filter (fun k=>!listed.getD k true)).length=fuel→
   (∀ k,listed.getD k false=true→∀ m,((masks ops.toList []).getD k 0).testBit m=true→listed.getD m false=true)→
   (∀ k,k<ops.size→k<listed.size)→
   RunsTo E call me ops φ ((List.range ops.size).filter (fun k=>!listed.getD k true)) st F→At E z L st gh w FS a→wpAny E.P .any ops Q fuel listed a w:=by
 intro fuel
 have sub:∀ (listed:Array Bool) j,j∈Region.ready .any ops listed→j∈(List.range ops.size).filter (fun k=>!listed.getD k true):=fun listed j hj=>by
  obtain⟨h0,o,ho,_⟩:=mem_ready.1 hj
  rw[List.mem_filter,List.mem_range]
  exact⟨(Array.getElem?_eq_some_iff.1 ho).1,by rw[h0];rfl⟩
 induction fuel with
 | zero=>
  intro listed st gh w FS a hlen hclosed hsz hruns hat
  have hnil:=List.eq_nil_of_length_eq_zero hlen
  rw[hnil] at hruns
  have hr:Region.ready .any ops listed=[]:=by
   cases hr:Region.ready .any ops listed with
   | nil=>rfl
   | cons x xs=>
    have:=sub listed x (by rw[hr];simp)
    rw[hnil] at this;simp at this
  refine⟨hr,?_⟩
  have:st=F:=hruns
  subst this
  exact hK _ _ _ _ hat
 | succ fuel ih=>
  intro listed st gh w FS a hlen hclosed hsz hruns hat
  have unl:∀ m,m∈(List.range ops.size).filter (fun k=>!listed.getD k true)→m<ops.size∧listed.getD m false=false:=fun m hm=>by
   rw[List.mem_filter,List.mem_range] at hm
   refine⟨hm.1,?_⟩
   have:=hm.2
   have hs:=hsz m hm.1
   simp[hs] at this ⊢
   exact this
  have lst:∀ m,m<ops.size→m∉(List.range ops.size).filter (fun k=>!listed.getD k true)→listed.getD m false=true:=fun m hm hn=>by
   rw[List.mem_filter,List.mem_range] at hn
   have hs:=hsz m hm
   simp[hm,hs] at hn ⊢
   exact hn
  have srtd:((List.range ops.size).filter (fun k=>!listed.getD k true)).Pairwise (· < ·):=(List.pairwise_lt_range).filter _
  refine⟨fun hr=>?_,fun i hi=>?_⟩
  ·exfalso
   generalize hM:(List.range ops.size).filter (fun k=>!listed.getD k true)=M at *
   cases M with
   | nil=>simp at hlen
   | cons i M=>
    obtain⟨hi1,hi2⟩:=unl i (by simp)
    obtain⟨o,ho⟩:∃ o,ops[i]?=some o:=⟨ops[i],Array.getElem?_eq_getElem hi1⟩
    have:i∈Region.ready .any ops listed:=by
     rw[mem_ready]
     refine⟨?_,o,ho,fun e he hb=>?_⟩
     ·have hs:=hsz i hi1
      simp[hs] at hi2 ⊢
      exact hi2
     ·have hlt:=hback i o ho e he hb
      refine lst e.on (Nat.lt_trans hlt hi1) fun hm=>?_
      rcases List.mem_cons.1 hm with h1 | h1
      ·omega
      ·have:=(List.pairwise_cons.1 srtd).1 _ h1
       omega
    rw[hr] at this
    simp at this
  ·have him:=sub listed i hi
   obtain⟨hjun,oi,hoi,hall⟩:=mem_ready.1 hi
   have hmask:∀ m,((masks ops.toList []).getD i 0).testBit m=true→listed.getD m false=true:=fun m hm=>by
    obtain⟨e,h1,h2,h3⟩:=masks_bit ops.toList [] i oi (by rw[Array.getElem?_toList];exact hoi) m (by simpa using hm)
    have h4:=hall e (by simpa using h1) h2
    rcases h3 with h3 | h3
    ·rw[←h3];exact h4
    ·exact hclosed e.on h4 m h3
   have hi1:=(unl i him).1
   obtain⟨M1,M2,hM⟩:=List.append_of_mem him
   have hnew:(List.range ops.size).filter (fun k=>!(listed.setIfInBounds i true).getD k true)=M1++M2:=by
    rw[listed_filter,hM]
    rw[hM] at srtd
    rw[List.pairwise_append] at srtd
    obtain⟨_,s2,s3⟩:=srtd
    have t1:M1.filter (· != i)=M1:=List.filter_eq_self.2 fun m hm=>by have:=s3 m hm i (by simp);simp;omega
    have t2:M2.filter (· != i)=M2:=List.filter_eq_self.2 fun m hm=>by have:=(List.pairwise_cons.1 s2).1 m hm;simp;omega
    rw[List.filter_append,List.filter_cons,t1,t2]
    simp
   rw[hM] at hruns srtd
   have hfront:=RunsTo.front (i:=i) hat.srt hat.heap.srt (fun m hm=>by
    have hlt:m<i:=(List.pairwise_append.1 srtd).2.2 m hm i (by simp)
    refine hconf m i hlt hi1 ?_
    cases hb:((masks ops.toList []).getD i 0).testBit m with
    | false=>rfl
    | true=>
     have h1:=hmask m hb
     have h2:=(unl m (by rw[hM];simp[hm])).2
     rw[h1] at h2;simp at h2) hruns
   obtain⟨o',s',q1,q2,q3,q4⟩:=hfront
   refine evOne_ok ht hcall hat (evOne_iff.2 ⟨_,q2,q3⟩) q1 fun gh' w' FS' a' hat'=>?_
   refine ih (listed.setIfInBounds i true) ?_ ?_ ?_ (by rw[hnew];exact q4) hat'
   ·rw[hnew]
    rw[hM] at hlen
    simp only[List.length_append,List.length_cons] at hlen ⊢
    omega
   ·intro k hk m hm
    by_cases hki:i=k
    ·subst hki
     exact getD_set_true (hmask m hm)
    ·rw[getD_set_ne false hki] at hk
     exact getD_set_true (hclosed k hk m hm)
   ·intro k hk;rw[Array.size_setIfInBounds];exact hsz k hk
theorem fresh_not {s:Option Nat} {o:Oper} {st st2:St} (h:∀ ty p x,o.op=.store ty (.tmp p) x→o.guard=none→o.dst=none→False):fresh s o st st2=st2:=by
 unfold fresh
 split
 ·rename_i ty p x ho
  split
  ·split
   ·split
    ·split
     ·split
      ·rename_i hc
       exact (h _ _ _ ho (by simpa using hc.2.2.2.2.1) (by simpa using hc.2.2.2.2.2)).elim
      ·rfl
     ·rfl
    ·rfl
   ·rfl
  ·rfl
 ·rfl
theorem fresh_ok {s:Option Nat} {st2:St} {gh gh':Nat→G} {w w':World} {FS FS':List Nat} {a a':Act} {o:Oper} {st:St} {ty:TypeId} {p:Nat} {x:Operand} (h:At E z L st gh w FS a) (h2:At E z L st2 gh' w' FS' a')
  (ho:o.op=.store ty (.tmp p) x) (hst:Stands st.fr (.tmp p) gh gh') (htm:a'.tmps=a.tmps):At E z L (fresh s o st st2) gh' w' FS' a':=by
 unfold fresh
 rw[ho]
 simp only
 split
 ·rename_i d ver q rest off hp
  split
  ·rename_i d' v c n hd
   split
   ·rename_i r hr
    split
    ·rename_i r2 hr2
     split
     ·rename_i hc
      obtain⟨rfl,hv,htk,hown,_,_⟩:=hc
      have hgd:gh' d'=gh d':=hst d' ver q rest off hp
      obtain⟨u,g1,g2,_⟩:=h.frame.tmp (s.getD d') _ hd
      have g2:(∃ ad cap,u=.slice ad n cap)∧okRef ⟨szOf E,w.heap,Inow z w (FS++[]),st.rt,gh⟩ d' v [] c n u:=g2
      have hval:(gh d').vals[c]?=some u:=by
       unfold ownLen at hown
       split at hown
       ·rename_i e es hce
        exact g2.2 r hr hv r.cells (gh d').vals _ rfl e es hce (by simpa using hown)
       ·simp at hown
      have hx:okX ⟨szOf E,w'.heap,Inow z w' (FS'++[]),st2.rt,gh'⟩ (.ref d' r2.hver [] c n) u:=by
       refine⟨g2.1,fun r3 hr3 _ cs vs ad hloc e es _ _=>?_⟩
       simp only[loc,Option.some.injEq,Prod.mk.injEq] at hloc
       obtain⟨_,rfl,_⟩:=hloc
       show (gh' d').vals[c]?=some u
       rw[hgd];exact hval
      refine⟨⟨h2.heap,h2.vers,⟨h2.frame.size,h2.frame.defers,fun d1 t hl=>?_⟩⟩,up_srt h2.srt,h2.lent,h2.shape,h2.tk,h2.spine⟩
      by_cases hdd:d1=s.getD d'
      ·subst hdd
       have hl:lk (up st2.fr (s.getD d') (.ref d' r2.hver [] c n)) (s.getD d')=some t:=hl
       rw[lk_up_self] at hl
       simp only[Option.some.injEq] at hl
       subst hl
       have hs:Stm st2.tick st2.rt d' r2.hver:=⟨by omega,fun he=>by omega⟩
       exact⟨u,by rw[htm];exact g1,hx,hs⟩
      ·have hl:lk (up st2.fr (s.getD d') (.ref d' r2.hver [] c n)) d1=some t:=hl
       rw[lk_up_ne _ _ _ _ hdd] at hl
       exact h2.frame.tmp d1 t hl
     ·exact h2
    ·exact h2
   ·exact h2
  ·exact h2
 ·exact h2
theorem opsK_ok {Q:Exit→Act→World→Prop} (ht:TiOk E) (hcall:∀ f args r,call f args=some r→Sound E f args r∧Enters E f):
  ∀ {l:List Oper} {i:Nat} {ks:List (List Tmp)} {st st':St} {gh w FS a},(∀ k,l[k]?=ops[i+k]?)→At E z L st gh w FS a→evOpsK E call me ops.toList ks l st=some st'→
   (∀ gh' w' FS' a',At E z L st' gh' w' FS' a'→Q .normal a' w')→wpOps E.P ops Q (List.range' i l.length) a w
 | [],i,ks,st,st',gh,w,FS,a,_,h,he,hK=>by
  simp only[evOpsK,Option.some.injEq] at he;subst he
  exact hK _ _ _ _ h
 | o::r,i,ks,st,st',gh,w,FS,a,hl,h,he,hK=>by
  simp only[evOpsK] at he
  simp only[List.length_cons,List.range'_succ]
  rw[wpOps_cons]
  have ho:ops[i]?=some o:=by have:=hl 0;simpa using this.symm
  have hl':∀ k,r[k]?=ops[i+1+k]?:=fun k=>by
   have:=hl (k+1)
   simp only[List.getElem?_cons_succ] at this
   rw[this];congr 1;omega
  split at he
  ·rename_i s1 h1
   have plain:(∀ k ks',ks=k::ks'→pause k o st ⟨s1.n,without k s1.fr,s1.rt,s1.tick⟩=⟨s1.n,without k s1.fr,s1.rt,s1.tick⟩∨pause k o st ⟨s1.n,without k s1.fr,s1.rt,s1.tick⟩=strike none ⟨s1.n,without k s1.fr,s1.rt,s1.tick⟩)→
     wpOp E.P ops Q i (wpOps E.P ops Q (List.range' (i+1) r.length)) a w:=fun hp=>by
    refine evOne_ok ht hcall h h1 ho fun gh' w' FS' a' hat=>?_
    split at he
    ·exact opsK_ok ht hcall hl' hat he hK
    ·rename_i k ks
     have hq:∃ FS2,At E z L (pause k o st ⟨s1.n,without k s1.fr,s1.rt,s1.tick⟩) gh' w' FS2 a':=by
      rcases hp k ks rfl with e | e<;>rw[e]
      ·exact⟨_,hat.without _⟩
      ·exact strike_ok (hat.without _) none
     obtain⟨FS2,h2⟩:=hq
     exact opsK_ok ht hcall hl' h2 he hK
   by_cases hS:∃ ty p x,o.op=.store ty (.tmp p) x∧o.guard=none∧o.dst=none
   ·obtain⟨ty,p,x,ho1,ho2,ho3⟩:=hS
    refine evOne_okS ht h ho1 ho2 ho3 h1 ho fun gh' w' FS' a' hst htm hat=>?_
    split at he
    ·exact opsK_ok ht hcall hl' hat he hK
    ·rename_i k ks
     have hq:∃ FS2,At E z L (pause k o st ⟨s1.n,without k s1.fr,s1.rt,s1.tick⟩) gh' w' FS2 a':=by
      unfold pause
      split
      ·obtain⟨FS2,h2⟩:=strike_ok (hat.without k) none
       split
       ·exact⟨FS2,fresh_ok h h2 ho1 hst htm⟩
       ·exact⟨FS2,h2⟩
      ·exact⟨_,hat.without _⟩
     obtain⟨FS2,h2⟩:=hq
     exact opsK_ok ht hcall hl' h2 he hK
   ·refine plain fun k ks' _=>?_
    unfold pause
    split
    ·split
     ·exact .inr (fresh_not fun ty p x h1 h2 h3=>hS ⟨ty,p,x,h1,h2,h3⟩)
     ·exact .inr rfl
    ·exact .inl rfl
  ·simp at he
theorem region_ok {id:Nat} {draw:Bool} {st st':St} {gh w FS a} {Q:Exit→Act→World→Prop} (ht:TiOk E) (hmix:E.P.follows .mixedOrders=true)
  (hcall:∀ f args r,call f args=some r→Sound E f args r∧Enters E f) (hdraw:draw=true→drawOk ops (E.pairs me id)=true)
  (h:At E z L st gh w FS a) (he:evRegion E call me id ops.toList draw st=some st') (hK:∀ gh' w' FS' a',At E z L st' gh' w' FS' a'→Q .normal a' w'):
  (Code.region id ops draw).wp E.P Q a w:=by
 have hl:∀ k,ops.toList[k]?=ops[0+k]?:=fun k=>by rw[Array.getElem?_toList,Nat.zero_add]
 have fin:∀ {F:St},st'=strike (E.live me id) F→∀ gh' w' FS' a',At E z L F gh' w' FS' a'→Q .normal a' w':=fun hF gh' w' FS' a' hat=>by
  obtain⟨FS2,h2⟩:=strike_ok hat (E.live me id)
  rw[←hF] at h2
  exact hK _ _ _ _ h2
 by_cases hclr:E.clr me id=true
 ·unfold evRegion at he
  rw[if_pos hclr] at he
  split at he
  ·simp at he
  ·rename_i hdr
   have hdr:draw=false:=by simpa using hdr
   subst hdr
   split at he
   ·rename_i y hy
    split at he
    ·rename_i s1 h1
     simp only[Option.some.injEq] at he
     exact clear_ok ht h hy h1 (fin he.symm)
    ·simp at he
   ·simp at he
 cases draw with
 | false=>
  unfold evRegion at he
  rw[if_neg hclr,if_neg (by simp)] at he
  split at he
  ·rename_i F hF
   simp only[Option.some.injEq] at he
   refine wp_region ?_
   have:=opsK_ok (i:=0) (Q:=Q) ht hcall hl h hF (fin he.symm)
   rw[show List.range' 0 ops.toList.length=List.range ops.size from by rw[List.range_eq_range',Array.length_toList]] at this
   exact this
  ·simp at he
 | true=>
  have hfeet:∃ F fs,evFeet E call me ops.toList (E.pairs me id) 0 ops.toList st=some (F,fs)∧noClash fs (E.pairs me id)=true∧st'=strike (E.live me id) F:=by
   unfold evRegion at he
   rw[if_neg hclr,if_pos rfl] at he
   split at he
   ·split at he
    ·rename_i F fs hF
     split at he
     ·rename_i hn
      simp only[Option.some.injEq] at he
      exact⟨F,fs,hF,hn,he.symm⟩
     ·simp at he
    ·simp at he
   ·rename_i hnil
    split at he
    ·rename_i F hF
     simp only[Option.some.injEq] at he
     have:E.pairs me id=[]:=by
      cases hp:E.pairs me id with
      | nil=>rfl
      | cons x xs=>rw[hp] at hnil;simp at hnil
     rw[this]
     exact⟨F,[],evOps_feet hF,rfl,he.symm⟩
    ·simp at he
  obtain⟨F,fs,hF,hn,hst⟩:=hfeet
  obtain⟨φ,g1,g2⟩:=evFeet_runs hl hF
  rw[show List.range' 0 ops.toList.length=List.range ops.size from by rw[List.range_eq_range',Array.length_toList]] at g1
  refine wp_region_any hmix ?_
  have hdr:=hdraw rfl
  have cols:=fun k oj (hk:ops[k]?=some oj)=>drawCols_spec hdr k oj (by rw[Array.getElem?_toList];exact hk)
  have hfil:(List.range ops.size).filter (fun k=>!(Array.replicate ops.size false).getD k true)=List.range ops.size:=by
   refine List.filter_eq_self.2 fun k hk=>?_
   rw[List.mem_range] at hk
   simp[hk]
  refine any_ok (me:=me) (φ:=φ) ht hcall (F:=F) (fun i j hij hj hbit oi oj hoi hoj=>?_) (fun j o ho e he hb=>?_) (fin hst) ops.size _ ?_ ?_ ?_ ?_ (h.world rfl rfl rfl rfl)
  ·have hrow:=(cols j oj hoj).2
   obtain⟨oi',hoi',hor⟩:=drawRow_spec hrow i (by omega)
   rw[hoi] at hoi';simp only[Option.some.injEq] at hoi';subst hoi'
   simp only[Nat.zero_add] at hor
   rw[hbit] at hor
   simp only[Bool.false_eq_true,false_or] at hor
   refine⟨hor.1,?_⟩
   rcases hor.2 with hp | hp
   ·obtain⟨f,g,hf,hg,hcl⟩:=noClash_spec hn i j (by simpa using hp)
    obtain⟨_,o1,w1,w2⟩:=g2 i f hf
    obtain⟨_,o2,w3,w4⟩:=g2 j g hg
    rw[hoi] at w1;simp only[Option.some.injEq] at w1;subst w1
    rw[hoj] at w3;simp only[Option.some.injEq] at w3;subst w3
    rw[←w2,←w4]
    exact hcl
   ·obtain⟨o1,s1,w1,w2⟩:=g1.eff i (by rw[List.mem_range];omega)
    obtain⟨o2,s2,w3,w4⟩:=g1.eff j (by rw[List.mem_range];omega)
    rw[hoi] at w1;simp only[Option.some.injEq] at w1;subst w1
    rw[hoj] at w3;simp only[Option.some.injEq] at w3;subst w3
    exact clash_side hp (fun h0=>mute_eff h0 w2) (fun h0=>mute_eff h0 w4) (fun h1=>load_eff h1 w2) (fun h1=>load_eff h1 w4)
  ·have:=(cols j o ho).1 e (by simpa using he) hb
   omega
  ·rw[hfil];simp
  ·intro k hk
   exfalso
   rcases Nat.lt_or_ge k ops.size with h' | h'
   ·simp[h'] at hk
   ·simp[Nat.not_lt.2 h'] at hk
  ·intro k hk;simpa using hk
  ·rw[hfil];exact g1
end runs
def codeOk (ps:Nat→List (Nat×Nat)):Code→Bool
 | .seq a b=>codeOk ps a&&codeOk ps b
 | .cond _ a b=>codeOk ps a&&codeOk ps b
 | .block _ c=>codeOk ps c
 | .loop c=>codeOk ps c
 | .region id ops dr=>!dr||drawOk ops (ps id)
 | _=>true
def exOf:Ex→Exit
 | .normal=>.normal
 | .exit i=>.exit i
 | .ret=>.ret
section code
variable {E:Env} {call:FuncId→List Arg→Option Res} {me:FuncId} {z:Zn} {L:Lnt}
def Walks (E:Env) (me:FuncId) (ev:Code→St→Option (Ex×St)) (c:Code) (k:Code):Prop:=
 ∀ (z:Zn) (L:Lnt) (st st':St) (x:Ex) (gh:Nat→G) (w:World) (FS:List Nat) (a:Act) (Q:Exit→Act→World→Prop),codeOk (E.pairs me) c=true→At E z L st gh w FS a→ev c st=some (x,st')→
  (∀ gh' w' FS' a',At E z L st' gh' w' FS' a'→Q (exOf x) a' w')→k.wp E.P Q a w
theorem code_ok {lp:Code→St→Option (Ex×St)} (ht:TiOk E) (hmix:E.P.follows .mixedOrders=true) (hcall:∀ f args r,call f args=some r→Sound E f args r∧Enters E f)
  (hlp:∀ c,Walks E me lp c (.loop c)):∀ c,Walks E me (evCode E call me lp) c c:=by
 intro c
 induction c with
 | skip=>
  intro z L st st' x gh w FS a Q hc hat he hK
  simp only[evCode,Option.some.injEq,Prod.mk.injEq] at he
  obtain⟨rfl,rfl⟩:=he
  exact wp_skip (hK _ _ _ _ hat)
 | ret=>
  intro z L st st' x gh w FS a Q hc hat he hK
  simp only[evCode,Option.some.injEq,Prod.mk.injEq] at he
  obtain⟨rfl,rfl⟩:=he
  exact wp_ret (hK _ _ _ _ hat)
 | exit id=>
  intro z L st st' x gh w FS a Q hc hat he hK
  simp only[evCode,Option.some.injEq,Prod.mk.injEq] at he
  obtain⟨rfl,rfl⟩:=he
  exact wp_exit (hK _ _ _ _ hat)
 | seq b d ihb ihd=>
  intro z L st st' x gh w FS a Q hc hat he hK
  simp only[codeOk,Bool.and_eq_true] at hc
  simp only[evCode] at he
  refine wp_seq ?_
  cases hb:evCode E call me lp b st with
  | none=>rw[hb] at he;simp at he
  | some p=>
   obtain⟨x1,st1⟩:=p
   rw[hb] at he
   refine ihb z L st st1 x1 gh w FS a _ hc.1 hat hb fun gh' w' FS' a' hat'=>?_
   cases x1 with
   | normal=>
    simp only at he
    exact ihd z L st1 st' x gh' w' FS' a' Q hc.2 hat' he hK
   | exit i=>
    simp only[Option.some.injEq,Prod.mk.injEq] at he
    obtain⟨rfl,rfl⟩:=he
    exact hK _ _ _ _ hat'
   | ret=>
    simp only[Option.some.injEq,Prod.mk.injEq] at he
    obtain⟨rfl,rfl⟩:=he
    exact hK _ _ _ _ hat'
 | cond c b d ihb ihd=>
  intro z L st st' x gh w FS a Q hc hat he hK
  simp only[codeOk,Bool.and_eq_true] at hc
  simp only[evCode] at he
  split at he
  ·rename_i t hv
   have:=okX_v.1 (hat.frame.val hv).1
   cases t with
   | true=>
    rw[if_pos rfl] at he
    exact wp_cond_true this (ihb z L st st' x gh w FS a Q hc.1 hat he hK)
   | false=>
    rw[if_neg (by simp)] at he
    exact wp_cond_false this (ihd z L st st' x gh w FS a Q hc.2 hat he hK)
  ·simp at he
 | block id b ihb=>
  intro z L st st' x gh w FS a Q hc hat he hK
  simp only[codeOk] at hc
  simp only[evCode] at he
  refine wp_block ?_
  cases hb:evCode E call me lp b st with
  | none=>rw[hb] at he;simp at he
  | some p=>
   obtain⟨x1,st1⟩:=p
   rw[hb] at he
   refine ihb z L st st1 x1 gh w FS a _ hc hat hb fun gh' w' FS' a' hat'=>?_
   cases x1 with
   | normal=>
    simp only[Option.some.injEq,Prod.mk.injEq] at he
    obtain⟨rfl,rfl⟩:=he
    exact hK _ _ _ _ hat'
   | exit i=>
    simp only[Option.some.injEq,Prod.mk.injEq] at he
    obtain⟨h1,rfl⟩:=he
    show Exit.inBlock id Q (.exit i) a' w'
    by_cases hi:i=id
    ·rw[if_pos hi] at h1
     subst h1
     have:=hK _ _ _ _ hat'
     simpa[Exit.inBlock,hi,exOf] using this
    ·rw[if_neg hi] at h1
     subst h1
     have:=hK _ _ _ _ hat'
     simpa[Exit.inBlock,hi,exOf] using this
   | ret=>
    simp only[Option.some.injEq,Prod.mk.injEq] at he
    obtain⟨rfl,rfl⟩:=he
    exact hK _ _ _ _ hat'
 | loop b _=>
  intro z L st st' x gh w FS a Q hc hat he hK
  simp only[codeOk] at hc
  simp only[evCode] at he
  exact hlp b z L st st' x gh w FS a Q hc hat he hK
 | region id ops dr=>
  intro z L st st' x gh w FS a Q hc hat he hK
  simp only[codeOk] at hc
  simp only[evCode] at he
  split at he
  ·rename_i st1 h1
   simp only[Option.some.injEq,Prod.mk.injEq] at he
   obtain⟨rfl,rfl⟩:=he
   refine region_ok (me:=me) ht hmix hcall (fun hd=>?_) hat h1 hK
   rw[hd] at hc
   simpa using hc
  ·simp at he
 | _=>intro z L st st' x gh w FS a Q hc hat he hK;simp[evCode] at he
theorem loop_ok (ht:TiOk E) (hmix:E.P.follows .mixedOrders=true) (hcall:∀ f args r,call f args=some r→Sound E f args r∧Enters E f):
  ∀ (k:Nat) (c:Code) (z:Zn) (L:Lnt) (st st':St) (x:Ex) (gh:Nat→G) (w:World) (FS:List Nat) (a:Act) (Q:Exit→Act→World→Prop),codeOk (E.pairs me) c=true→At E z L st gh w FS a→
   evLoop E call me k c st=some (x,st')→(∀ gh' w' FS' a',At E z L st' gh' w' FS' a'→Q (exOf x) a' w')→Code.rounds E.P c Q k a w
 | 0,c,z,L,st,st',x,gh,w,FS,a,Q,_,_,he,_=>by simp[evLoop] at he
 | k+1,c,z,L,st,st',x,gh,w,FS,a,Q,hc,hat,he,hK=>by
  have hlp:∀ c,Walks E me (evLoop E call me k) c (.loop c):=fun c z L st st' x gh w FS a Q hc hat he hK=>
   wp_loop_rounds k (loop_ok ht hmix hcall k c z L st st' x gh w FS a Q hc hat he hK)
  simp only[evLoop] at he
  rw[rounds_succ]
  cases hb:evCode E call me (evLoop E call me k) c st with
  | none=>rw[hb] at he;simp at he
  | some p=>
   obtain⟨x1,st1⟩:=p
   rw[hb] at he
   refine code_ok ht hmix hcall hlp c z L st st1 x1 gh w FS a _ hc hat hb fun gh' w' FS' a' hat'=>?_
   cases x1 with
   | normal=>
    simp only at he
    exact loop_ok ht hmix hcall k c z L st1 st' x gh' w' FS' a' Q hc hat' he hK
   | exit i=>
    simp only[Option.some.injEq,Prod.mk.injEq] at he
    obtain⟨rfl,rfl⟩:=he
    exact hK _ _ _ _ hat'
   | ret=>
    simp only[Option.some.injEq,Prod.mk.injEq] at he
    obtain⟨rfl,rfl⟩:=he
    exact hK _ _ _ _ hat'
theorem whole_ok (ht:TiOk E) (hmix:E.P.follows .mixedOrders=true) (hcall:∀ f args r,call f args=some r→Sound E f args r∧Enters E f) (n:Nat) (c:Code):Walks E me (evCode E call me (evLoop E call me n)) c c:=
 code_ok ht hmix hcall (fun c z L st st' x gh w FS a Q hc hat he hK=>wp_loop_rounds n (loop_ok ht hmix hcall n c z L st st' x gh w FS a Q hc hat he hK)) c
end code
section close
variable {E:Env} {sz:TypeId→Nat} {z:Zn} {gh:Nat→G} {w:World}
theorem setCell_tick {t1 t2:Nat} {rt:List (Nat×Root)} {s:CSet} (h:s.hdr=false):setCell t1 rt s=setCell t2 rt s:=by
 unfold setCell
 rw[h];rfl
structure Took (sz:TypeId→Nat) (z:Zn) (tick:Nat) (gh:Nat→G) (w:World) (rt rt':List (Nat×Root)) (FS FS' X X':List Nat):Prop where
 heap:HRel sz z rt' gh w FS' X'
 keeps:Keeps ⟨sz,w.heap,Inow z w (FS++X),rt,gh⟩ ⟨sz,w.heap,Inow z w (FS'++X'),rt',gh⟩ (Stm tick rt)
 stm:∀ a b,Stm tick rt a b→Stm tick rt' a b
theorem Took.refl {tick rt FS X} (r:HRel sz z rt gh w FS X):Took sz z tick gh w rt rt FS FS X X:=
 ⟨r,r.keeps_refl _ fun _ hb=>hb,fun _ _ h=>h⟩
theorem Took.trans {tick rt1 rt2 rt3 F1 F2 F3 X1 X2 X3} (h1:Took sz z tick gh w rt1 rt2 F1 F2 X1 X2) (h2:Took sz z tick gh w rt2 rt3 F2 F3 X2 X3):Took sz z tick gh w rt1 rt3 F1 F3 X1 X3:=
 ⟨h2.heap,h1.keeps.trans h2.keeps h1.stm,fun a b h=>h2.stm a b (h1.stm a b h)⟩
theorem close1_ok {tick rt FS X} {t t':T} {s:List CSet} {u:Value} (r:HRel sz z rt gh w FS X) (hk:okX0 ⟨sz,w.heap,Inow z w (FS++X),rt,gh⟩ t u)
  (h:(close1 t).run rt=some (t',s)):∃ FS' f,okV sz w.heap (Inow z w (FS'++(f++X))) t' u f∧Took sz z tick gh w rt (setCells 0 rt s) FS FS' X (f++X):=by
 have plain:∀ {t'},okV sz w.heap (Inow z w (FS++X)) t' u []→∃ FS' f,okV sz w.heap (Inow z w (FS'++(f++X))) t' u f∧Took sz z tick gh w rt (setCells 0 rt []) FS FS' X (f++X):=fun h=>
  ⟨FS,[],h,Took.refl r⟩
 unfold close1 at h
 split at h
 ·rename_i d ver path c n
  obtain⟨⟨⟨e,es⟩,s1⟩,h1,h2⟩:=run_bind h
  simp only[Rd.run,Option.some.injEq,Prod.mk.injEq] at h2
  obtain⟨rfl,rfl⟩:=h2
  obtain⟨q1,q2,q3,FS',f,q4,q5,q6⟩:=r.take (tick:=tick) hk.2 h1
  have es1:setCells 0 rt [s1]=setCell tick rt s1:=by simp only[setCells];exact setCell_tick q1
  rw[es1]
  refine⟨FS',f,okV_agree ⟨fun b hb=>⟨(q6.old b hb).1,rfl⟩,fun b _=>rfl⟩ q4,q5,q6,fun a b h=>Stm_set a b h⟩
 ·simp only[Rd.run,Option.some.injEq,Prod.mk.injEq] at h
  obtain⟨rfl,rfl⟩:=h
  exact plain hk
 ·simp only[Rd.run,Option.some.injEq,Prod.mk.injEq] at h
  obtain⟨rfl,rfl⟩:=h
  exact plain hk
 ·simp only[Rd.run,Option.some.injEq,Prod.mk.injEq] at h
  obtain⟨rfl,rfl⟩:=h
  exact plain hk
 ·simp[Rd.run] at h
theorem st0_mono {S S':Nat→Nat→Prop} (h:∀ a b,S a b→S' a b) {t:T} (hs:st0 S t):st0 S' t:=by
 cases t<;>first | trivial | exact h _ _ hs
theorem closeL_ok {tick}:∀ {ts ts':List T} {us:List Value} {rt rt':List (Nat×Root)} {FS X},HRel sz z rt gh w FS X→All2 (okX0 ⟨sz,w.heap,Inow z w (FS++X),rt,gh⟩) ts us→(∀ t,t∈ts→st0 (Stm tick rt) t)→
  closeL rt ts=some (ts',rt')→∃ FS' f,okL sz w.heap (Inow z w (FS'++(f++X))) ts' us f∧Took sz z tick gh w rt rt' FS FS' X (f++X)
 | [],ts',us,rt,rt',FS,X,r,hk,_,h=>by
  simp only[closeL,Option.some.injEq,Prod.mk.injEq] at h
  obtain⟨rfl,rfl⟩:=h
  exact⟨FS,[],⟨hk,rfl⟩,Took.refl r⟩
 | t::ts,ts',us,rt,rt',FS,X,r,hk,hs,h=>by
  obtain⟨u,us',rfl,k1,k2⟩:=hk
  simp only[closeL] at h
  split at h
  ·rename_i t1 s h1
   split at h
   ·rename_i ts1 rt1 h2
    simp only[Option.some.injEq,Prod.mk.injEq] at h
    obtain⟨rfl,rfl⟩:=h
    obtain⟨F1,f1,g1,g2⟩:=close1_ok (tick:=tick) r k1 h1
    obtain⟨F2,f2,g3,g4⟩:=closeL_ok (tick:=tick) g2.heap (k2.imp fun t u hm hx=>g2.keeps.x0 (hs t (by simp[hm])) hx) (fun t hm=>st0_mono g2.stm (hs t (by simp[hm]))) h2
    have hb:Both (f2++(f1++X)) (f1++f2) X:=fun x=>by simp only[List.count_append];omega
    have r2:HRel sz z rt1 gh w F2 ((f1++f2)++X):=g4.heap.same fun x=>by simp only[List.count_append];omega
    have hI:∀ b,Inow z w (F2++(f2++(f1++X))) b↔Inow z w (F2++((f1++f2)++X)) b:=fun b=>by
     unfold Inow
     have:b∈F2++(f2++(f1++X))↔b∈F2++((f1++f2)++X):=by simp only[List.mem_append];grind
     rw[this]
    refine⟨F2,f1++f2,⟨u,us',f1,f2,rfl,rfl,?_,?_⟩,r2,?_,(g2.trans g4).stm⟩
    ·exact okV_agree ⟨fun b hb=>⟨(hI b).1 (g4.keeps.old b hb).1,rfl⟩,fun b _=>rfl⟩ g1
    ·exact okL_agree ⟨fun b hb=>⟨(hI b).1 hb,rfl⟩,fun b _=>rfl⟩ g3
    ·exact (g2.trans g4).keeps.trans (g4.heap.keeps_refl (Stm tick rt1) (fun b hb=>(hI b).1 hb)) (g2.trans g4).stm
   ·simp at h
  ·simp at h
theorem closeT_ok {tick} {t t':T} {u:Value} {rt rt':List (Nat×Root)} {FS X} (r:HRel sz z rt gh w FS X) (hk:okX ⟨sz,w.heap,Inow z w (FS++X),rt,gh⟩ t u) (hs:stX (Stm tick rt) t)
  (h:closeT rt t=some (t',rt')):∃ FS' f,okV sz w.heap (Inow z w (FS'++(f++X))) t' u f∧Took sz z tick gh w rt rt' FS FS' X (f++X):=by
 have one:∀ {t},okX0 ⟨sz,w.heap,Inow z w (FS++X),rt,gh⟩ t u→(match (close1 t).run rt with | some (t',s)=>some (t',setCells 0 rt s) | none=>none)=some (t',rt')→
   ∃ FS' f,okV sz w.heap (Inow z w (FS'++(f++X))) t' u f∧Took sz z tick gh w rt rt' FS FS' X (f++X):=fun hk h=>by
  split at h
  ·rename_i t1 s h1
   simp only[Option.some.injEq,Prod.mk.injEq] at h
   obtain⟨rfl,rfl⟩:=h
   exact close1_ok r hk h1
  ·simp at h
 cases t with
 | agg cs=>
  simp only[closeT] at h
  obtain⟨us,rfl,hL⟩:=hk
  split at h
  ·rename_i cs' rt1 h1
   simp only[Option.some.injEq,Prod.mk.injEq] at h
   obtain⟨rfl,rfl⟩:=h
   obtain⟨FS',f,g1,g2⟩:=closeL_ok (tick:=tick) r hL hs h1
   exact⟨FS',f,⟨us,rfl,g1⟩,g2⟩
  ·simp at h
 | tup cs=>simp[closeT,close1,Rd.run] at h
 | clo f cs=>simp[closeT,close1,Rd.run] at h
 | v x=>exact one (t:=.v x) hk h
 | sl e es=>exact one (t:=.sl e es) hk h
 | own e es=>exact one (t:=.own e es) hk h
 | ref a b c d e=>exact one (t:=.ref a b c d e) hk h
 | ptr a b c d=>exact one (t:=.ptr a b c d) hk h
 | bx a b c d=>exact one (t:=.bx a b c d) hk h
 | ipt cs=>exact one (t:=.ipt cs) hk h
 | dead=>exact one (t:=.dead) hk h
 | hdr n=>exact one (t:=.hdr n) hk h
 | obx cs=>exact one (t:=.obx cs) hk h
theorem okV_floats {I I':Nat→Prop} {t u f} (h:∀ b,I b→I' b) (hk:okV sz w.heap I t u f):okV sz w.heap I' t u f:=okV_agree ⟨fun b hb=>⟨h b hb,rfl⟩,fun _b _=>rfl⟩ hk
theorem okL_floats {I I':Nat→Prop} {t u f} (h:∀ b,I b→I' b) (hk:okL sz w.heap I t u f):okL sz w.heap I' t u f:=okL_agree ⟨fun b hb=>⟨h b hb,rfl⟩,fun _b _=>rfl⟩ hk
def resVal (a:Act):ResultVar→Value
 | .tmp t=>a.tmps.getD t undef
 | .cell _ _=>undef
theorem resAll_ok (ht:TiOk E) {st:St} {a:Act} {n tick:Nat}:∀ {rs:List (ResultVar×TypeId)} {ts:List T} {rt rt':List (Nat×Root)} {FS X},HRel (szOf E) z rt gh w FS X→
  FRel ⟨szOf E,w.heap,Inow z w (FS++X),rt,gh⟩ (Stm tick rt) n st.fr a→resAll E st rt rs=some (ts,rt')→
  (∀ r,r∈rs→∃ t,r.1=.tmp t)∧∃ FS' f,okL (szOf E) w.heap (Inow z w (FS'++(f++X))) ts (rs.map fun r=>resVal a r.1) f∧Took (szOf E) z tick gh w rt rt' FS FS' X (f++X)
 | [],ts,rt,rt',FS,X,r,hf,h=>by
  simp only[resAll,Option.some.injEq,Prod.mk.injEq] at h
  obtain⟨rfl,rfl⟩:=h
  exact⟨fun r hr=>by simp at hr,FS,[],⟨rfl,rfl⟩,Took.refl r⟩
 | (v,ty)::rs,ts,rt,rt',FS,X,r,hf,h=>by
  simp only[resAll] at h
  split at h
  ·rename_i t1 rt1 h1
   split at h
   ·rename_i ts1 rt2 h2
    simp only[Option.some.injEq,Prod.mk.injEq] at h
    obtain⟨rfl,rfl⟩:=h
    cases v with
    | cell _ _=>simp[resOne] at h1
    | tmp k=>
     simp only[resOne] at h1
     split at h1
     ·rename_i t0 hl
      obtain⟨u,q1,q2,q3⟩:=hf.tmp k t0 hl
      have hu:resVal a (.tmp k)=u:=by simp[resVal,q1]
      obtain⟨m1,m2⟩:=nilOf_ok (ty:=ty) ht q2 q3
      obtain⟨F1,f1,g1,g2⟩:=closeT_ok (tick:=tick) r m1 m2 h1
      have hf2:FRel ⟨szOf E,w.heap,Inow z w (F1++(f1++X)),rt1,gh⟩ (Stm tick rt1) n st.fr a:=⟨hf.size,hf.defers,fun d t hl=>by
       obtain⟨u,q1,q2,q3⟩:=hf.tmp d t hl
       exact⟨u,q1,g2.keeps.x q3 q2,stX_mono g2.stm q3⟩⟩
      obtain⟨p0,F2,f2,g3,g4⟩:=resAll_ok ht (tick:=tick) g2.heap hf2 h2
      refine⟨fun r hr=>by
       rcases List.mem_cons.1 hr with rfl | hr
       ·exact⟨k,rfl⟩
       ·exact p0 r hr,F2,f1++f2,?_⟩
      have r2:HRel (szOf E) z rt2 gh w F2 ((f1++f2)++X):=g4.heap.same fun x=>by simp only[List.count_append];omega
      have hI:∀ b,Inow z w (F2++(f2++(f1++X))) b↔Inow z w (F2++((f1++f2)++X)) b:=fun b=>by
       unfold Inow
       have:b∈F2++(f2++(f1++X))↔b∈F2++((f1++f2)++X):=by simp only[List.mem_append];grind
       rw[this]
      refine⟨⟨u,_,f1,f2,by rw[List.map_cons,hu],rfl,?_,?_⟩,r2,?_,(g2.trans g4).stm⟩
      ·exact okV_floats (fun b hb=>(hI b).1 (g4.keeps.old b hb).1) g1
      ·exact okL_floats (fun b hb=>(hI b).1 hb) g3
      ·exact (g2.trans g4).keeps.trans (g4.heap.keeps_refl (Stm tick rt2) (fun b hb=>(hI b).1 hb)) (g2.trans g4).stm
     ·simp at h1
   ·simp at h
  ·simp at h
theorem outsOf_del {d:Nat} {rt:List (Nat×Root)}:∀ {as:List Arg} {j:Nat} {os},d<j→outsOf j rt as=some os→outsOf j (TM.del rt d) as=some os
 | [],j,os,_,h=>h
 | a::as,j,os,hj,h=>by
  simp only[outsOf] at h ⊢
  rw[lk_del_ne _ _ _ (by omega)]
  split at h
  ·split at h
   ·rename_i hre
    rw[if_pos hre]
    split at h
    ·rename_i ro hl
     split at h
     ·rename_i hc
      rw[if_pos hc]
      split at h
      ·rename_i os1 ho
       rw[outsOf_del (by omega) ho]
       exact h
      ·simp at h
     ·simp at h
    ·simp at h
   ·rename_i hre
    rw[if_neg hre]
    exact outsOf_del (by omega) h
  ·exact outsOf_del (by omega) h
theorem outsOf_ok {h0:Array Obj} {all:List Arg} {us:List Value}:∀ {as:List Arg} {i:Nat} {rt:List (Nat×Root)} {os:List (Nat×List T)} {FS X},HRel sz z rt gh w FS X→
  (∀ k a r,as[k]?=some a→a.root=some r→r.real=true→∃ u,us[i+k]?=some u∧∀ r',lk rt (i+k)=some r'→r'.ver=0→∃ b,(gh (i+k)).blk=some b∧u=.pointer (some ⟨b.b,b.pre.length,none⟩)∧
   ∃ arr0 vals0,h0[b.b]?=some (.cells arr0 b.el b.fz)∧arr0.toList=b.pre++vals0++b.post∧vals0.length=r.cells.length∧(r'.hver=0→skL sz w.heap h0 r'.cells r.cells (gh (i+k)).vals vals0))→
  (∀ k,all[i+k]?=as[k]?)→outsOf i rt as=some os→∃ rt' FS' f,okOuts sz h0 w.heap (Inow z w (FS'++(f++X))) all us os f∧HRel sz z rt' gh w FS' (f++X)∧(∀ b,Inow z w (FS++X) b→Inow z w (FS'++(f++X)) b)
 | [],i,rt,os,FS,X,r,_,_,h=>by
  simp only[outsOf,Option.some.injEq] at h;subst h
  exact⟨rt,FS,[],rfl,r,fun b hb=>hb⟩
 | a::as,i,rt,os,FS,X,r,hp,hall,h=>by
  have tail:∀ (rt2:List (Nat×Root)) (FS2 X2:List Nat),HRel sz z rt2 gh w FS2 X2→(∀ d r',lk rt2 d=some r'→lk rt d=some r')→∀ os2,outsOf (i+1) rt2 as=some os2→
    ∃ rt' FS' f,okOuts sz h0 w.heap (Inow z w (FS'++(f++X2))) all us os2 f∧HRel sz z rt' gh w FS' (f++X2)∧(∀ b,Inow z w (FS2++X2) b→Inow z w (FS'++(f++X2)) b):=fun rt2 FS2 X2 r2 hl os2 h2=>
   outsOf_ok r2 (fun k a r ha hr hre=>by
    obtain⟨u,h1,h3⟩:=hp (k+1) a r (by simpa using ha) hr hre
    have e:i+(k+1)=i+1+k:=by omega
    rw[e] at h1 h3
    exact⟨u,h1,fun r' hr' hv=>h3 r' (hl _ _ hr') hv⟩) (fun k=>by have:=hall (k+1);rw[show i+1+k=i+(k+1) by omega];simpa using this) h2
  simp only[outsOf] at h
  split at h
  ·rename_i r0 hr0
   split at h
   ·rename_i hreal
    split at h
    ·rename_i ro hl
     split at h
     ·rename_i hc
      split at h
      ·rename_i os1 ho
       simp only[Option.some.injEq] at h;subst h
       obtain⟨u,hu,hb⟩:=hp 0 a r0 (by simp) hr0 hreal
       simp only[Nat.add_zero] at hu hb
       obtain⟨b,hblk,rfl,arr0,vals0,y1,y2,y3,y4⟩:=hb ro hl hc.1
       obtain⟨fd,rr,d1,d2,d3,d4⟩:=r.del hl
       obtain⟨rt2,F2,f2,w1,w2,w3⟩:=tail _ _ _ d2 (fun d r' hl'=>by
         by_cases hd:d=i
         ·subst hd;rw[lk_del_self] at hl';simp at hl'
         ·rw[lk_del_ne _ _ _ hd] at hl';exact hl') _ (outsOf_del (by omega) ho)
       have hb2:∃ fs' arr,fd=b.b::fs'∧w.heap[b.b]?=some (.cells arr b.el b.fz)∧fzFree b.fz arr.size∧arr.toList=b.pre++(gh i).vals++b.post∧okL sz w.heap (Inow z w (rr++(fd++X))) ro.cells (gh i).vals fs':=by
        unfold okRoot at d1
        rw[hblk] at d1
        obtain⟨_,fs',arr,e1,e2,e3,e4,e5⟩:=d1
        exact⟨fs',arr,e1,e2,e3,e4,e5⟩
       obtain⟨fs',arr,rfl,e2,e3,e4,e5⟩:=hb2
       have hI:∀ x,Inow z w (F2++(f2++((b.b::fs')++X))) x↔Inow z w (F2++(((b.b::fs')++f2)++X)) x:=fun x=>by
        unfold Inow
        have:x∈F2++(f2++((b.b::fs')++X))↔x∈F2++(((b.b::fs')++f2)++X):=by simp only[List.mem_append];grind
        rw[this]
       refine⟨rt2,F2,(b.b::fs')++f2,?_,w2.same fun x=>by simp only[List.count_append];omega,fun x hx=>(hI x).1 (w3 x ((d3 x).1 hx))⟩
       refine⟨b,fs',f2,arr,(gh i).vals,rfl,hu,e2,e3,e4,okL_floats (fun x hx=>(hI x).1 (w3 x hx)) e5,⟨arr0,vals0,y1,y2,fun r1 hr1=>?_⟩,?_⟩
       ·have:=hall 0
        simp only[Nat.add_zero,List.getElem?_cons_zero] at this
        rw[this] at hr1
        simp only[Option.bind_some] at hr1
        rw[hr0] at hr1
        simp only[Option.some.injEq] at hr1
        subst hr1
        refine⟨y3,fun hv=>?_⟩
        rcases hc.2.2.2 with h | h
        ·exact absurd hv h
        ·exact y4 h
       ·exact okOuts_floats (fun x hx=>(hI x).1 hx) w1
      ·simp at h
     ·simp at h
    ·simp at h
   ·exact tail _ _ _ r (fun _ _ h=>h) _ h
  ·exact tail _ _ _ r (fun _ _ h=>h) _ h
end close
section body
variable {E:Env} {z:Zn}
def gOf (h:Array Obj):Nat→List Arg→List Value→Nat→G
 | _,[],_,_=>default
 | _,_::_,[],_=>default
 | i,a::as,u::us,d=>
  if d=i then
   match a.root with
   | none=>default
   | some r=>if r.real then (match u with
     | .pointer (some ad)=>(match h[ad.block]? with | some (.cells arr el fz)=>⟨some ⟨ad.block,arr.toList.take ad.off,arr.toList.drop (ad.off+r.cells.length),el,fz⟩,(arr.toList.drop ad.off).take r.cells.length⟩ | _=>default)
     | _=>default) else (match u with | .agg us=>⟨none,us.toList⟩ | u=>⟨none,[u]⟩)
  else gOf h (i+1) as us d
theorem gOf_real {h:Array Obj} {g:G} {b:Blk} {arr:Array Value} {n:Nat} (hb:g.blk=some b) (h1:h[b.b]?=some (.cells arr b.el b.fz)) (h2:arr.toList=b.pre++g.vals++b.post) (h3:g.vals.length=n):
  (match h[b.b]? with | some (.cells arr el fz)=>(⟨some ⟨b.b,arr.toList.take b.pre.length,arr.toList.drop (b.pre.length+n),el,fz⟩,(arr.toList.drop b.pre.length).take n⟩:G) | _=>default)=g:=by
 obtain⟨b0,pre,post,el,fz⟩:=b
 obtain⟨gb,gv⟩:=g
 simp only at hb h1 h2 h3
 subst hb h3
 simp only[h1,h2]
 have e1:(pre++gv++post).take pre.length=pre:=by rw[List.append_assoc,List.take_left]
 have e2:(pre++gv++post).drop (pre.length+gv.length)=post:=by rw[←List.length_append,List.drop_left]
 have e3:((pre++gv++post).drop pre.length).take gv.length=gv:=by rw[List.append_assoc,List.drop_left,List.take_left]
 rw[e1,e2,e3]
theorem initRt_ge:∀ {as:List Arg} {i:Nat} {p:Nat×Root},p∈initRt i as→i≤p.1
 | [],i,p,h=>by simp[initRt] at h
 | a::as,i,p,h=>by
  simp only[initRt] at h
  split at h
  ·rcases List.mem_cons.1 h with rfl | h
   ·exact Nat.le_refl _
   ·have:=initRt_ge h;omega
  ·have:=initRt_ge h;omega
theorem initRt_srt:∀ {as:List Arg} {i:Nat},Srt (initRt i as)
 | [],i=>by simp[initRt,Srt]
 | a::as,i=>by
  simp only[initRt]
  split
  ·exact⟨fun p hp=>by have:=initRt_ge hp;show i<p.1;omega,initRt_srt⟩
  ·exact initRt_srt
theorem initFr_ge:∀ {as:List Arg} {i:Nat} {p:Nat×T},p∈initFr i as→i≤p.1
 | [],i,p,h=>by simp[initFr] at h
 | a::as,i,p,h=>by
  simp only[initFr] at h
  rcases List.mem_cons.1 h with rfl | h
  ·exact Nat.le_refl _
  ·have:=initFr_ge h;omega
theorem initFr_srt:∀ {as:List Arg} {i:Nat},Srt (initFr i as)
 | [],i=>by simp[initFr,Srt]
 | a::as,i=>⟨fun p hp=>by have:=initFr_ge hp;show i<p.1;omega,initFr_srt⟩
theorem lk_initFr:∀ {as:List Arg} {i d:Nat} {t:T},lk (initFr i as) d=some t→∃ k a,d=i+k∧as[k]?=some a∧t=a.t
 | [],i,d,t,h=>by simp[initFr,lk] at h
 | a::as,i,d,t,h=>by
  simp only[initFr,lk] at h
  split at h
  ·rename_i hd
   simp only[Option.some.injEq] at h
   exact⟨0,a,by omega,by simp,h.symm⟩
  ·obtain⟨k,b,h1,h2,h3⟩:=lk_initFr h
   exact⟨k+1,b,by omega,by simpa using h2,h3⟩
theorem lk_initRt:∀ {as:List Arg} {i k:Nat} {a:Arg},as[k]?=some a→lk (initRt i as) (i+k)=a.root
 | [],i,k,a,h=>by simp at h
 | b::as,i,0,a,h=>by
  simp only[List.getElem?_cons_zero,Option.some.injEq] at h;subst h
  simp only[initRt]
  cases hr:b.root with
  | none=>simp only[Nat.add_zero];exact lk_none_of_lt fun p hp=>by have:=initRt_ge hp;omega
  | some r=>simp[lk]
 | b::as,i,k+1,a,h=>by
  simp only[List.getElem?_cons_succ] at h
  have ih:=lk_initRt (i:=i+1) h
  have e:i+1+k=i+(k+1):=by omega
  rw[e] at ih
  simp only[initRt]
  cases hr:b.root with
  | none=>exact ih
  | some r=>simp only[lk,if_neg (show ¬ i=i+(k+1) by omega)];exact ih
theorem init_ok {sz:TypeId→Nat} {h:Array Obj} {I:Nat→Prop}:∀ {as:List Arg} {i:Nat} {us:List Value} {f:List Nat},okArgs sz h I i as us f→
    us.length=as.length∧okRts sz h I (gOf h i as us) (initRt i as) f∧
    ∀ k a,as[k]?=some a→∃ u,us[k]?=some u∧
      ((a.root = none ∧ okV sz h I a.t u []) ∨
       ∃ r,a.root=some r∧r.ver=0∧r.hver≤1∧
        ((r.real = true ∧ a.t = .ptr (i + k) 0 [] 0 ∧ ∃ b, (gOf h i as us (i + k)).blk = some b ∧ u = .pointer (some ⟨b.b, b.pre.length, none⟩) ∧ ∃ arr0, h[b.b]? = some (.cells arr0 b.el b.fz) ∧ arr0.toList = b.pre ++ (gOf h i as us (i + k)).vals ++ b.post ∧ (gOf h i as us (i + k)).vals.length = r.cells.length) ∨
         (r.real=false∧∃ e es,r.cells=[.own e es]∧a.t=.ref (i+k) 0 [] 0 es.length∧gOf h i as us (i+k)=⟨none,[u]⟩∧∃ ad cap,u=.slice ad es.length cap)∨
         (r.real=false∧∃ cs vs f,r.cells=cs.map bare∧a.t=.agg (viewFrom (i+k) 0 [] 0 cs)∧u=.agg vs.toArray∧gOf h i as us (i+k)=⟨none,vs⟩∧okL sz h I (cs.map bare) vs f∧okL sz h I (cs.map vw) vs [])))
  | [],i,us,f,hk=>by
    obtain⟨rfl,rfl⟩:=hk
    exact⟨rfl,rfl,fun k a hk=>by simp at hk⟩
  | a::as,i,us,f,hk=>by
    obtain⟨u,us',f1,f2,rfl,rfl,h1,h2⟩:=hk
    obtain⟨g1,g2,g3⟩:=init_ok h2
    have hne:∀ d,i<d→gOf h i (a::as) (u::us') d=gOf h (i+1) as us' d:=fun d hd=>by simp only[gOf];rw[if_neg (by omega)]
    have hrest:okRts sz h I (gOf h i (a::as) (u::us')) (initRt (i+1) as) f2:=by
      have gen:∀ {rt:List (Nat×Root)} {f},(∀ p,p∈rt→i<p.1)→okRts sz h I (gOf h (i+1) as us') rt f→okRts sz h I (gOf h i (a::as) (u::us')) rt f:=by
        intro rt
        induction rt with
        | nil=>intro f _ h;exact h
        | cons p rt ih=>
          intro f hp hk
          obtain⟨f1,f2,rfl,q1,q2⟩:=hk
          exact⟨f1,f2,rfl,by rw[hne _ (hp p (by simp))];exact q1,ih (fun q hq=>hp q (by simp[hq])) q2⟩
      exact gen (fun p hp=>by have:=initRt_ge hp;omega) g2
    refine⟨by simp[g1],?_,fun k b hb=>?_⟩
    · unfold okArg at h1
      simp only[initRt]
      split at h1
      · rename_i hr
        rw[hr]
        obtain⟨_,rfl⟩:=h1
        simpa using hrest
      · rename_i r hr
        rw[hr]
        obtain⟨g,q1,q2,q3,q4⟩:=h1
        refine⟨f1,f2,rfl,?_,hrest⟩
        have hg:gOf h i (a::as) (u::us') i=g:=by
          simp only[gOf,if_true,hr]
          rcases q4 with⟨q5,q6,b,q7,rfl⟩ | ⟨q5,e,es,q6,q7,rfl⟩ | ⟨q5,cs,vs,q6,q7,rfl,rfl,q8⟩
          · rw [if_pos q5]
            unfold okRoot at q1
            rw[q7] at q1
            obtain⟨_,fs',arr,e1,e2,e3,e4,e5⟩:=q1
            exact gOf_real q7 e2 e4 (okL_length e5)
          · rw [if_neg (by rw [q5]; simp)]
            unfold okRoot at q1
            simp only at q1
            obtain⟨_,hL⟩:=q1
            rw[q6] at hL
            simp only[okL] at hL
            obtain⟨u0,us0,f3,f4,e1,_,e2,e3,_⟩:=hL
            simp only[List.cons.injEq] at e1
            obtain⟨rfl,_⟩:=e1
            simp only[okV] at e2
            rcases e2 with⟨rfl,_,ad,rfl⟩ | ⟨b,o,cap,arr,el,fz,fs',rfl,_⟩<;>rfl
          · rw[if_neg (by rw[q5];simp)]
        rw[hg];exact q1
    · cases k with
      | zero=>
        simp only[List.getElem?_cons_zero,Option.some.injEq] at hb;subst hb
        refine⟨u,by simp,?_⟩
        unfold okArg at h1
        split at h1
        · rename_i hr
          exact .inl ⟨hr,h1.1⟩
        · rename_i r hr
          obtain⟨g,q1,q2,q3,q4⟩:=h1
          refine .inr ⟨r,hr,q2,q3,?_⟩
          rcases q4 with⟨q5,q6,b,q7,rfl⟩ | ⟨q5,e,es,q6,q7,rfl⟩ | ⟨q5,cs,vs,q6,q7,rfl,rfl,q8⟩
          · refine .inl ⟨q5, q6, b, ?_⟩
            unfold okRoot at q1
            rw[q7] at q1
            obtain⟨_,fs',arr,e1,e2,e3,e4,e5⟩:=q1
            have hg:gOf h i (a::as) (.pointer (some ⟨b.b,b.pre.length,none⟩)::us') (i+0)=g:=by
              simp only[gOf,Nat.add_zero,if_true,hr,q5]
              exact gOf_real q7 e2 e4 (okL_length e5)
            rw[hg]
            exact⟨q7,rfl,arr,e2,e4,okL_length e5⟩
          · have hsl : ∃ ad cap, u = .slice ad es.length cap := by
              unfold okRoot at q1
              simp only at q1
              obtain⟨_,hL⟩:=q1
              rw[q6] at hL
              simp only[okL] at hL
              obtain⟨u0,us0,f3,f4,e1,_,e2,e3,_⟩:=hL
              simp only[List.cons.injEq] at e1
              obtain⟨rfl,_⟩:=e1
              simp only[okV] at e2
              rcases e2 with⟨rfl,_,ad,rfl⟩ | ⟨b,o,cap,arr,el,fz,fs',rfl,_⟩
              · exact⟨ad,0,rfl⟩
              · exact⟨_,cap,rfl⟩
            obtain⟨ad,cap,rfl⟩:=hsl
            exact .inr (.inl ⟨q5,e,es,q6,q7,by simp[gOf,hr,q5],ad,cap,rfl⟩)
          · refine .inr (.inr ⟨q5, cs, vs, f1, q6, q7, rfl, by simp [gOf, hr, q5], ?_, q8⟩)
            unfold okRoot at q1
            simp only at q1
            rw[←q6]
            exact q1.2
      | succ k=>
        simp only[List.getElem?_cons_succ] at hb ⊢
        obtain⟨u',q1,q2⟩:=g3 k b hb
        have e:i+1+k=i+(k+1):=by omega
        rw[e] at q2
        rw[hne _ (by omega)]
        exact⟨u',q1,q2⟩
def lentOf:Nat→List Arg→List Value→List (T×Value)
 | i,a::as,u::us=>match a.root with
  | some r=>if r.real then (.ptr i 0 [] 0,u)::lentOf (i+1) as us else lentOf (i+1) as us
  | none=>lentOf (i+1) as us
 | _,_,_=>[]
theorem lentOf_mem:∀ {as:List Arg} {i:Nat} {us:List Value} {p},p∈lentOf i as us→∃ k a r,as[k]?=some a∧us[k]?=some p.2∧a.root=some r∧r.real=true∧p.1=.ptr (i+k) 0 [] 0
 | [],i,us,p,h=>by simp[lentOf] at h
 | a::as,i,[],p,h=>by simp[lentOf] at h
 | a::as,i,u::us,p,h=>by
  have next:p∈lentOf (i+1) as us→∃ k b r,(a::as)[k]?=some b∧(u::us)[k]?=some p.2∧b.root=some r∧r.real=true∧p.1=.ptr (i+k) 0 [] 0:=fun h=>by
   obtain⟨k,b,r,h1,h2,h3,h4,h5⟩:=lentOf_mem h
   exact⟨k+1,b,r,by simpa using h1,by simpa using h2,h3,h4,by rw[h5];congr 1;omega⟩
  simp only[lentOf] at h
  split at h
  ·rename_i r hr
   split at h
   ·rename_i hre
    rcases List.mem_cons.1 h with rfl | h
    ·exact⟨0,a,r,by simp,by simp,hr,hre,rfl⟩
    ·exact next h
   ·exact next h
  ·exact next h
def lnt0 (h:Array Obj) (args:List Arg) (us:List Value):Lnt:=
 ⟨lentOf 0 args us,fun d=>match lk (initRt 0 args) d with | some r=>r.cells | none=>[],fun d=>(gOf h 0 args us d).vals,fun d=>(gOf h 0 args us d).blk⟩
theorem aggView_ok {x:Cx} {S:Nat→Nat→Prop} {dd:Nat} {rt0:Root} {row0:List T} {vs0:List Value} (hl:lk x.rt dd=some rt0) (hc:rt0.cells=row0.map bare) (hg:(x.gh dd).vals=vs0) (hS:S dd 0):
  ∀ {row:List T} {vs:List Value} {f:List Nat} {k:Nat},okL x.sz x.h x.I (row.map bare) vs f→okL x.sz x.h x.I (row.map vw) vs []→(∀ j,row0[k+j]?=row[j]?)→(∀ j,vs0[k+j]?=vs[j]?)→
   All2 (okX0 x) (viewFrom dd 0 [] k row) vs∧∀ t,t∈viewFrom dd 0 [] k row→st0 S t
 | [],vs,f,k,hk,_,_,_=>by simp only[List.map_nil,okL] at hk;exact⟨hk.1,fun t ht=>by simp[viewFrom] at ht⟩
 | c::cs,vs,f,k,hk,hw,h1,h2=>by
  simp only[List.map_cons,okL] at hk hw
  obtain⟨u,us',f1,f2,rfl,rfl,k1,k2⟩:=hk
  obtain⟨u0,us0,g1,g2,e1,e2,w1,w2⟩:=hw
  simp only[List.cons.injEq] at e1
  obtain⟨rfl,rfl⟩:=e1
  have e3:g1=[]:=by cases g1<;>simp at e2 ⊢
  have e4:g2=[]:=by cases g2<;>simp at e2 ⊢
  subst e3;subst e4
  obtain⟨r1,r2⟩:=aggView_ok hl hc hg hS k2 w2 (fun j=>by have:=h1 (j+1);rw[show k+1+j=k+(j+1) by omega];simpa using this) (fun j=>by have:=h2 (j+1);rw[show k+1+j=k+(j+1) by omega];simpa using this)
  have e0:row0[k]?=some c:=by have:=h1 0;simpa using this
  have e1:vs0[k]?=some u:=by have:=h2 0;simpa using this
  have head:okX0 x (view1 dd 0 [] k c) u∧st0 S (view1 dd 0 [] k c):=by
   cases c with
   | own e es=>
    refine⟨⟨?_,fun r hr _ cs' vs' ad hloc e' es' hce hn=>?_⟩,hS⟩
    ·simp only[bare,okV] at k1
     rcases k1 with⟨rfl,_,ad,rfl⟩ | ⟨b,o,cap,arr,el,fz,fs',rfl,_⟩
     ·exact⟨ad,0,rfl⟩
     ·exact⟨_,cap,rfl⟩
    ·simp only[loc,Option.some.injEq,Prod.mk.injEq] at hloc
     obtain⟨_,rfl,_⟩:=hloc
     rw[hg]
     exact e1
   | agg _=>exact okV_0 (S:=S) w1
   | tup _=>exact okV_0 (S:=S) w1
   | ref _ _ _ _ _=>simp[vw,okV] at w1
   | ptr _ _ _ _=>simp[vw,okV] at w1
   | bx _ _ _ _=>simp[vw,okV] at w1
   | v _=>exact okV_0 (S:=S) w1
   | sl _ _=>exact okV_0 (S:=S) w1
   | ipt _=>exact okV_0 (S:=S) w1
   | clo _ _=>exact okV_0 (S:=S) w1
   | dead=>exact okV_0 (S:=S) w1
   | hdr n=>exact okV_0 (S:=S) w1
   | obx _=>exact okV_0 (S:=S) w1
  simp only[viewFrom]
  refine⟨⟨u,us',rfl,head.1,r1⟩,fun t ht=>?_⟩
  rcases List.mem_cons.1 ht with rfl | ht
  ·exact head.2
  ·exact r2 t ht
theorem begin_ok {args:List Arg} {us:List Value} {nt:Nat} (hu:Uniq z.F0) (hlt:∀ b,b∈z.F0→b<z.w0.heap.size) (hk:okArgs (szOf E) z.w0.heap z.I0 0 args us z.F0):
  At E z (lnt0 z.w0.heap args us) ⟨max nt args.length,initFr 0 args,initRt 0 args,2⟩ (gOf z.w0.heap 0 args us) z.w0 z.F0
   { tmps:=us.toArray++Array.replicate (nt - us.toArray.size) undef,defers:=[] }:=by
 obtain⟨hl,h1,h2⟩:=init_ok hk
 have hI:∀ b,z.I0 b→Inow z z.w0 (z.F0++[]) b:=fun b hb=>.inl hb
 have stm:∀ d s,s=0→Stm 2 (initRt 0 args) d s:=fun d s hs=>by subst hs;exact⟨by omega,fun h=>by simp at h⟩
 have arg:∀ (k:Nat) (a:Arg),args[k]?=some a→∃ u,us[k]?=some u∧okX ⟨szOf E,z.w0.heap,Inow z z.w0 (z.F0++[]),initRt 0 args,gOf z.w0.heap 0 args us⟩ a.t u∧stX (Stm 2 (initRt 0 args)) a.t:=fun k a ha=>by
  obtain⟨u,q1,q2⟩:=h2 k a ha
  refine⟨u,q1,?_⟩
  have hrt:=lk_initRt (i:=0) ha
  simp only[Nat.zero_add] at hrt q2
  rcases q2 with⟨_,q2⟩ | ⟨r,q2,q3,q4,q5⟩
  ·have:=okV_0 (x:=⟨szOf E,z.w0.heap,Inow z z.w0 (z.F0++[]),initRt 0 args,gOf z.w0.heap 0 args us⟩) (S:=Stm 2 (initRt 0 args)) (okV_agree ⟨fun b hb=>⟨hI b hb,rfl⟩,fun b hb=>by simp at hb⟩ q2)
   exact lift02 this.1 this.2
  ·rw[q2] at hrt
   rcases q5 with⟨q6,q7,b,q8,rfl,_⟩ | ⟨q6,e,es,q7,q8,q9,ad,cap,rfl⟩ | ⟨q6,cs,vs,f,q7,q8,rfl,q9,q10,q11⟩
   ·rw[q7]
    refine⟨⟨⟨_,rfl⟩,fun r' hr' hv=>⟨b,q8,rfl⟩⟩,stm _ _ rfl⟩
   ·rw[q8]
    refine⟨⟨⟨ad,cap,rfl⟩,fun r' hr' hv cs vs ad' hloc e' es' hc hn=>?_⟩,stm _ _ rfl⟩
    have hr':lk (initRt 0 args) k=some r':=hr'
    rw[hrt] at hr'
    simp only[Option.some.injEq] at hr';subst hr'
    simp only[loc,Option.some.injEq,Prod.mk.injEq] at hloc
    obtain⟨rfl,rfl,_⟩:=hloc
    show (gOf z.w0.heap 0 args us k).vals[0]?=_
    rw[q9];rfl
   ·rw[q8]
    have ho:∀ {f},okL (szOf E) z.w0.heap z.I0 (cs.map bare) vs f→okL (szOf E) z.w0.heap (Inow z z.w0 (z.F0++[])) (cs.map bare) vs f:=fun h=>okL_agree ⟨fun b hb=>⟨hI b hb,rfl⟩,fun _ _=>rfl⟩ h
    have hv:=aggView_ok (x:=⟨szOf E,z.w0.heap,Inow z z.w0 (z.F0++[]),initRt 0 args,gOf z.w0.heap 0 args us⟩) (S:=Stm 2 (initRt 0 args)) (dd:=k) (rt0:=r) (row0:=cs) (vs0:=vs) (k:=0) hrt q7 (by show (gOf z.w0.heap 0 args us k).vals=vs;rw[q9]) (stm _ _ rfl) (ho q10)
     (okL_agree ⟨fun b hb=>⟨hI b hb,rfl⟩,fun b hb=>by simp at hb⟩ q11) (fun j=>by simp) (fun j=>by simp)
    exact⟨⟨vs,rfl,hv.1⟩,hv.2⟩
 have hsz:(us.toArray++Array.replicate (nt - us.toArray.size) undef).size=max nt args.length:=by
  simp only[Array.size_append,Array.size_replicate,List.size_toArray]
  omega
 have hroots:=okRts_agree (h':=z.w0.heap) (I':=Inow z z.w0 (z.F0++[])) ⟨fun b hb=>⟨hI b hb,rfl⟩,fun _ _=>rfl⟩ h1
 refine⟨⟨⟨initRt_srt,okRts_agree ⟨fun b hb=>⟨hI b hb,rfl⟩,fun _ _=>rfl⟩ h1,by simpa using hu,fun b hb=>hlt b (by simpa using hb),fun b hb=>.inl (by simpa using hb),⟨rfl,rfl,rfl,Nat.le_refl _,fun _ _ _=>rfl⟩⟩,?_,hsz,rfl,?_⟩,initFr_srt,?_,fun p hp=>by obtain⟨k,a,r,_,_,_,_,w5⟩:=lentOf_mem hp;exact⟨_,w5⟩,(by show 0<2;omega),fun d r hl _=>?_,fun d r hl _=>rfl⟩
 ·intro d r hr
  have hm:=lk_mem hr
  have gen:∀ {as:List Arg} {i:Nat} {us:List Value} {f},okArgs (szOf E) z.w0.heap z.I0 i as us f→∀ p,p∈initRt i as→p.2.ver=0∧p.2.hver≤1:=by
   intro as
   induction as with
   | nil=>intro i us f _ p hp;simp[initRt] at hp
   | cons a as ih=>
    intro i us f hk p hp
    obtain⟨u,us',f1,f2,rfl,rfl,q1,q2⟩:=hk
    simp only[initRt] at hp
    unfold okArg at q1
    split at hp
    ·rename_i x hx
     rw[hx] at q1
     obtain⟨g,_,w1,w2,_⟩:=q1
     rcases List.mem_cons.1 hp with rfl | hp
     ·exact⟨w1,w2⟩
     ·exact ih q2 p hp
    ·exact ih q2 p hp
  have:=gen hk _ hm
  simp only at this
  constructor<;>omega
 ·intro d t hd
  obtain⟨k,a,rfl,ha,rfl⟩:=lk_initFr hd
  obtain⟨u,q1,q2,q3⟩:=arg k a ha
  refine⟨u,?_,q2,q3⟩
  have hks:k<us.length:=(List.getElem?_eq_some_iff.1 q1).1
  show (us.toArray++Array.replicate (nt - us.toArray.size) undef)[0+k]?=some u
  rw[Nat.zero_add,Array.getElem?_append_left (by simpa using hks)]
  simpa using q1
 ·intro p hp
  obtain⟨k,a,r,w1,w2,w3,w4,w5⟩:=lentOf_mem hp
  obtain⟨u,q1,q2,q3⟩:=arg k a w1
  rw[q1] at w2;simp only[Option.some.injEq] at w2;subst w2
  obtain⟨u',q1',q2'⟩:=h2 k a w1
  rw[q1] at q1';simp only[Option.some.injEq] at q1';subst q1'
  rcases q2' with⟨q2',_⟩ | ⟨r',q2',_,_,q5⟩
  ·rw[w3] at q2';simp at q2'
  ·rw[w3] at q2';simp only[Option.some.injEq] at q2';subst q2'
   rcases q5 with⟨_,q7,_⟩ | ⟨q6,_⟩ | ⟨q6,_⟩
   ·rw[w5,←q7];exact⟨q2,q3⟩
   ·rw[w4] at q6;simp at q6
   ·rw[w4] at q6;simp at q6
 ·have hl':lk (initRt 0 args) d=some r:=hl
  simp only[lnt0,hl']
  exact skL_self hroots (fun _ _=>rfl) hl'
theorem initRt_vals:∀ {ys:List Value} {i:Nat},initRt i (ys.map valArg)=[]
 | [],i=>rfl
 | y::ys,i=>by simp only[List.map_cons,initRt,valArg];exact initRt_vals
theorem okL_bare {sz h I}:∀ {row vs f},okL sz h I row vs f→row.all lentCell=true→okL sz h I (row.map bare) vs f
 | [],vs,f,hk,_=>hk
 | c::cs,vs,f,hk,hc=>by
  simp only[okL] at hk
  obtain⟨u,us',f1,f2,rfl,rfl,h1,h2⟩:=hk
  simp only[List.all_cons,Bool.and_eq_true] at hc
  refine⟨u,us',f1,f2,rfl,rfl,?_,okL_bare h2 hc.2⟩
  cases c<;>simp[lentCell] at hc
  ·simp only[okV] at h1;simp only[bare,okV];exact h1.2
  ·exact h1
theorem lentView_ok {x:Cx} {rt0:Root} {row0:List T} {vs0:List Value} (hl:lk x.rt 0=some rt0) (hc:rt0.cells=row0.map bare) (hg:(x.gh 0).vals=vs0):
  ∀ {row:List T} {vs:List Value} {f:List Nat} {k:Nat},okL x.sz x.h x.I row vs f→row.all lentCell=true→(∀ j,row0[k+j]?=row[j]?)→(∀ j,vs0[k+j]?=vs[j]?)→All2 (okX0 x) (viewFrom 0 0 [] k row) vs
 | [],vs,f,k,hk,_,_,_=>by simp only[okL] at hk;exact hk.1
 | c::cs,vs,f,k,hk,ha,h1,h2=>by
  simp only[okL] at hk
  obtain⟨u,us',f1,f2,rfl,rfl,k1,k2⟩:=hk
  simp only[List.all_cons,Bool.and_eq_true] at ha
  refine⟨u,us',rfl,?_,lentView_ok hl hc hg k2 ha.2 (fun j=>by have:=h1 (j+1);rw[show k+1+j=k+(j+1) by omega];simpa using this) (fun j=>by have:=h2 (j+1);rw[show k+1+j=k+(j+1) by omega];simpa using this)⟩
  have e0:row0[k]?=some c:=by have:=h1 0;simpa using this
  have e1:vs0[k]?=some u:=by have:=h2 0;simpa using this
  cases c<;>simp[lentCell] at ha
  ·show okV x.sz x.h x.I _ u []
   simp only[okV] at k1 ⊢
   exact⟨k1.1,rfl⟩
  ·rename_i e es
   refine⟨?_,fun r hr _ cs' vs' ad hloc e' es' hce hn=>?_⟩
   ·simp only[okV] at k1
    rcases k1 with⟨rfl,_,ad,rfl⟩ | ⟨b,o,cap,arr,el,fz,fs',rfl,_⟩
    ·exact⟨ad,0,rfl⟩
    ·exact⟨_,cap,rfl⟩
   ·simp only[loc,Option.some.injEq,Prod.mk.injEq] at hloc
    obtain⟨_,rfl,_⟩:=hloc
    rw[hg]
    exact e1
theorem beginL_ok {a:Arg} {ys:List Value} {row:List T} {u:Value} {vs:List Value} {nt:Nat} (hla:LentArg a row u vs) (hrow:row.all lentCell=true) (hu:Uniq z.F0) (hlt:∀ b,b∈z.F0→b<z.w0.heap.size) (hk:okL (szOf E) z.w0.heap z.I0 row vs z.F0):
  At E z ⟨[],fun _=>row.map bare,fun _=>vs,fun _=>none⟩ ⟨max nt (a::ys.map valArg).length,initFr 0 (a::ys.map valArg),initRt 0 (a::ys.map valArg),2⟩ (fun d=>if d=0 then ⟨none,vs⟩ else default) z.w0 z.F0
   { tmps:=(u::ys).toArray++Array.replicate (nt - (u::ys).toArray.size) undef,defers:=[] }:=by
 have hI:∀ b,z.I0 b→Inow z z.w0 (z.F0++[]) b:=fun b hb=>.inl hb
 have hroot:a.root=some ⟨0,0,false,row.map bare⟩:=by cases hla<;>rfl
 have hrt:initRt 0 (a::ys.map valArg)=[(0,⟨0,0,false,row.map bare⟩)]:=by simp only[initRt,hroot,initRt_vals]
 have hk':okL (szOf E) z.w0.heap (Inow z z.w0 (z.F0++[])) row vs z.F0:=okL_agree ⟨fun b hb=>⟨hI b hb,rfl⟩,fun _ _=>rfl⟩ hk
 have hbare:=okL_bare hk' hrow
 have hroots:okRts (szOf E) z.w0.heap (Inow z z.w0 (z.F0++[])) (fun d=>if d=0 then (⟨none,vs⟩:G) else default) [(0,(⟨0,0,false,row.map bare⟩:Root))] z.F0:=
  ⟨z.F0,[],by simp,⟨rfl,hbare⟩,rfl⟩
 have stm:∀ d,Stm 2 [(0,(⟨0,0,false,row.map bare⟩:Root))] d 0:=fun d=>⟨by omega,fun h=>by omega⟩
 have arg:okX ⟨szOf E,z.w0.heap,Inow z z.w0 (z.F0++[]),[(0,⟨0,0,false,row.map bare⟩)],fun d=>if d=0 then ⟨none,vs⟩ else default⟩ a.t u∧stX (Stm 2 [(0,(⟨0,0,false,row.map bare⟩:Root))]) a.t:=by
  have hv:=lentView_ok (x:=⟨szOf E,z.w0.heap,Inow z z.w0 (z.F0++[]),[(0,⟨0,0,false,row.map bare⟩)],fun d=>if d=0 then ⟨none,vs⟩ else default⟩) (rt0:=⟨0,0,false,row.map bare⟩) (row0:=row) (vs0:=vs) (k:=0)
   (by simp[lk]) rfl rfl hk' hrow (fun j=>by simp) (fun j=>by simp)
  cases hla with
  | one e es=>
   obtain⟨b,bs,e1,h1,_⟩:=hv
   simp only[List.cons.injEq] at e1
   obtain⟨rfl,_⟩:=e1
   exact⟨h1,stm 0⟩
  | row=>
   refine⟨⟨vs,rfl,hv⟩,?_⟩
   have:∀ {r:List T} {k:Nat} (t:T),r.all lentCell=true→t∈viewFrom 0 0 [] k r→st0 (Stm 2 [(0,(⟨0,0,false,row.map bare⟩:Root))]) t:=by
    intro r
    induction r with
    | nil=>intro k t _ ht;simp[viewFrom] at ht
    | cons c r ih=>
     intro k t hc ht
     simp only[List.all_cons,Bool.and_eq_true] at hc
     simp only[viewFrom] at ht
     rcases List.mem_cons.1 ht with rfl | ht
     ·have hc1:=hc.1
      cases c<;>simp[lentCell] at hc1
      ·trivial
      ·exact stm 0
     ·exact ih t hc.2 ht
   exact fun t ht=>this t hrow ht
 have hsz:((u::ys).toArray++Array.replicate (nt - (u::ys).toArray.size) undef).size=max nt (a::ys.map valArg).length:=by
  simp only[Array.size_append,Array.size_replicate,List.size_toArray,List.length_cons,List.length_map]
  omega
 rw[hrt]
 refine⟨⟨⟨⟨fun p hp=>by simp at hp,trivial⟩,hroots,by simpa using hu,fun b hb=>hlt b (by simpa using hb),fun b hb=>.inl (by simpa using hb),⟨rfl,rfl,rfl,Nat.le_refl _,fun _ _ _=>rfl⟩⟩,?_,hsz,rfl,?_⟩,initFr_srt,fun p hp=>by simp at hp,fun p hp=>by simp at hp,(by show 0<2;omega),fun d r hl _=>?_,fun d r hl _=>by show (if d=0 then (⟨none,vs⟩:G) else default).blk=none;split<;>rfl⟩
 ·intro d r hr
  have hr:lk [(0,(⟨0,0,false,row.map bare⟩:Root))] d=some r:=hr
  simp only[lk] at hr
  split at hr
  ·simp only[Option.some.injEq] at hr;subst hr;simp
  ·simp at hr
 ·intro d t hd
  obtain⟨k,b,rfl,hb,rfl⟩:=lk_initFr hd
  rw[Nat.zero_add]
  cases k with
  | zero=>
   simp only[List.getElem?_cons_zero,Option.some.injEq] at hb
   subst hb
   exact⟨u,(by show ((u::ys).toArray++Array.replicate (nt - (u::ys).toArray.size) undef)[0]?=some u;rw[Array.getElem?_append_left (by simp)];simp),arg.1,arg.2⟩
  | succ k=>
   simp only[List.getElem?_cons_succ,List.getElem?_map] at hb
   cases hy:ys[k]? with
   | none=>rw[hy] at hb;simp at hb
   | some y=>
    rw[hy] at hb
    simp only[Option.map_some,Option.some.injEq] at hb
    subst hb
    have hks:k<ys.length:=(List.getElem?_eq_some_iff.1 hy).1
    refine⟨y,?_,okX_v.2 rfl,trivial⟩
    show ((u::ys).toArray++Array.replicate (nt - (u::ys).toArray.size) undef)[k+1]?=some y
    rw[Array.getElem?_append_left (by simpa using hks)]
    simpa using hy
 ·have hl':lk [(0,(⟨0,0,false,row.map bare⟩:Root))] d=some r:=hl
  have hd:d=0:=by
   simp only[lk] at hl'
   split at hl'
   ·rename_i h;exact h.symm
   ·simp at hl'
  subst hd
  have hr:r=⟨0,0,false,row.map bare⟩:=by simpa[lk] using hl'.symm
  subst hr
  exact skL_self (d:=0) hroots (fun _ _=>rfl) (by simp[lk])
def resRun (tmps:Array Value):ResultVar→Sem Value
 | .tmp t=>pure (tmps.getD t undef)
 | .cell a t=>do loadVar t (← asAddr (tmps.getD a undef))
theorem run_mapM_eq {P:Program} {w:World} {α β:Type} {g:α→Sem β}:∀ {l:List α} {rs:List β},l.length=rs.length→(∀ (k:Nat) (a:α) (r:β),l[k]?=some a→rs[k]?=some r→(g a).run P w=.ok r w)→(l.mapM g).run P w=.ok rs w
 | [],[],_,_=>by simp
 | [],r::rs,h,_=>by simp at h
 | a::l,[],h,_=>by simp at h
 | a::l,r::rs,hl,h=>by
  have h1:=h 0 a r (by simp) (by simp)
  have h2:=run_mapM_eq (P:=P) (w:=w) (g:=g) (l:=l) (rs:=rs) (by simpa using hl) fun k b s hb hs=>h (k+1) b s (by simpa using hb) (by simpa using hs)
  simp[List.mapM_cons,h1,h2]
def oneOf:List Value→Value
 | [v]=>v
 | vs=>.tuple vs.toArray
theorem run_results {P:Program} {fn:Func} {tmps:Array Value} {w:World} {vs:List Value} (hl:fn.results.toList.length=vs.length)
  (h:∀ (k:Nat) (r:ResultVar) (v:Value),fn.results.toList[k]?=some r→vs[k]?=some v→(resRun tmps r).run P w=.ok v w):
  (results fn tmps).run P w=.ok (oneOf vs) w:=by
 have hm:=run_mapM_eq (P:=P) (w:=w) (g:=resRun tmps) hl h
 have hm2:(fn.results.mapM (resRun tmps)).run P w=.ok vs.toArray w:=by
  rw[Array.mapM_eq_mapM_toList]
  simp[hm]
 unfold results
 have e:(fun r:ResultVar=>match r with
  | .tmp t=>(pure (tmps.getD t undef):Sem Value)
  | .cell a t=>do loadVar t (← asAddr (tmps.getD a undef)))=resRun tmps:=by
  funext r;cases r<;>rfl
 show (do let vs ← fn.results.mapM (fun r:ResultVar=>match r with
  | .tmp t=>(pure (tmps.getD t undef):Sem Value)
  | .cell a t=>do loadVar t (← asAddr (tmps.getD a undef)));pure (if h:vs.size=1 then vs[0] else .tuple vs)).run P w=_
 rw[e,Sem.run_bind,hm2]
 simp only[Result.andThen_ok,Sem.run_pure]
 match vs with
 | []=>rfl
 | [v]=>rfl
 | a::b::r=>simp[oneOf]
end body
section finish
variable {E:Env} {z:Zn}
theorem okL_tupled {sz h I} {ts:List T} {vs:List Value} {f:List Nat} (hk:okL sz h I ts vs f):okV sz h I (tupled ts) (oneOf vs) f:=by
 have hl:=okL_length hk
 match ts,vs,hl with
 | [],[],_=>exact⟨[],rfl,hk⟩
 | [t],[v],_=>
  simp only[okL] at hk
  obtain⟨u,us',f1,f2,e1,rfl,h1,rfl,rfl⟩:=hk
  simp only[List.cons.injEq,and_true] at e1
  subst e1
  simpa[tupled,oneOf] using h1
 | t1::t2::ts,v1::v2::vs,_=>exact⟨_,rfl,hk⟩
theorem res_key (ht:TiOk E) {fn:Func} {L:Lnt} {st:St} {gh:Nat→G} {w:World} {FS:List Nat} {a:Act} {ts:List T} {rt:List (Nat×Root)} (hsz:fn.results.size=fn.resultTypes.size)
  (h:At E z L st gh w FS a) (hres:resTop E st (fn.results.toList.zip fn.resultTypes.toList)=some (ts,rt)):
  ∃ vs:List Value,fn.results.toList.length=vs.length∧(∀ (k:Nat) (r:ResultVar) (v:Value),fn.results.toList[k]?=some r→vs[k]?=some v→(resRun a.tmps r).run E.P w=.ok v w)∧
     ∃ FS' f,okL (szOf E) w.heap (Inow z w (FS'++(f++[]))) ts vs f∧HRel (szOf E) z rt gh w FS' (f++[])∧Keeps ⟨szOf E,w.heap,Inow z w (FS++[]),st.rt,gh⟩ ⟨szOf E,w.heap,Inow z w (FS'++(f++[])),rt,gh⟩ (Stm st.tick st.rt):=by
 have hmap:(fn.results.toList.zip fn.resultTypes.toList).map (·.1)=fn.results.toList:=List.map_fst_zip (by simp[hsz])
 have all:resAll E st st.rt (fn.results.toList.zip fn.resultTypes.toList)=some (ts,rt)→∃ vs:List Value,fn.results.toList.length=vs.length∧(∀ (k:Nat) (r:ResultVar) (v:Value),fn.results.toList[k]?=some r→vs[k]?=some v→(resRun a.tmps r).run E.P w=.ok v w)∧
  ∃ FS' f,okL (szOf E) w.heap (Inow z w (FS'++(f++[]))) ts vs f∧HRel (szOf E) z rt gh w FS' (f++[])∧Keeps ⟨szOf E,w.heap,Inow z w (FS++[]),st.rt,gh⟩ ⟨szOf E,w.heap,Inow z w (FS'++(f++[])),rt,gh⟩ (Stm st.tick st.rt):=fun hall=>by
  obtain⟨q1,q2⟩:=resAll_ok (tick:=st.tick) ht h.heap h.frame hall
  have e:(fn.results.toList.zip fn.resultTypes.toList).map (fun r=>resVal a r.1)=fn.results.toList.map (resVal a):=by
   have:=congrArg (List.map (resVal a)) hmap
   rw[List.map_map] at this
   exact this
  rw[e] at q2
  obtain⟨F1,f1,q2,q3⟩:=q2
  refine⟨_,by simp,fun k r v hr hv=>?_,F1,f1,q2,q3.heap,q3.keeps⟩
  have hm:r∈(fn.results.toList.zip fn.resultTypes.toList).map (·.1):=by rw[hmap];exact List.mem_of_getElem? hr
  obtain⟨p,hp,rfl⟩:=List.mem_map.1 hm
  obtain⟨t,htm⟩:=q1 p hp
  rw[List.getElem?_map,hr] at hv
  simp only[Option.map_some,Option.some.injEq] at hv
  subst hv
  rw[htm]
  simp[resRun,resVal]
 cases hzip:fn.results.toList.zip fn.resultTypes.toList with
 | nil=>rw[hzip] at hres all;exact all hres
 | cons p ps=>
  obtain⟨rv,ty⟩:=p
  cases rv with
  | tmp k=>
   rw[hzip] at hres all
   cases ps with
   | cons p2 ps=>exact all hres
   | nil=>
    simp only[resTop] at hres
    split at hres
    ·rename_i rr hb
     simp only[Option.some.injEq] at hres
     subst hres
     unfold boxOut at hb
     split at hb
     ·rename_i d ver hl
      split at hb
      ·rename_i ro hro
       split at hb
       ·rename_i hc
        simp only[Option.some.injEq,Prod.mk.injEq] at hb
        obtain⟨rfl,rfl⟩:=hb
        obtain⟨u,q1,q2,q3⟩:=h.frame.tmp k _ hl
        obtain⟨⟨ad,rfl⟩,q5⟩:=q2
        obtain⟨B,b1,b2⟩:=q5 ro hro hc.2.1
        obtain⟨fd,rr,d1,d2,d3,d4⟩:=h.heap.del hro
        unfold okRoot at d1
        rw[b1] at d1
        obtain⟨_,fs',arr,rfl,e2,e3,e4,e5⟩:=d1
        rw[hzip] at hmap
        have hlist:fn.results.toList=[.tmp k]:=by rw[←hmap];rfl
        refine⟨[.pointer (some ad)],by rw[hlist];rfl,fun k' r v hr hv=>?_,rr,B.b::fs',⟨_,[],B.b::fs',[],rfl,by simp,?_,rfl,rfl⟩,d2,d4.mono fun _ _ _=>trivial⟩
        ·rw[hlist] at hr
         cases k' with
         | succ k'=>simp at hr
         | zero=>
          simp only[List.getElem?_cons_zero,Option.some.injEq] at hr hv
          subst hr;subst hv
          simp[resRun,q1]
        ·simp only[okV]
         refine⟨B.b,B.pre,(gh d).vals,B.post,B.el,B.fz,fs',by rw[b2];simp,rfl,?_,?_,e5⟩
         ·rw[←e4];exact e2
         ·rw[←e4];simpa using e3
       ·simp at hb
      ·simp at hb
     ·simp at hb
    ·exact all hres
  | cell ad ty'=>
   cases ps with
   | cons p2 ps=>rw[hzip] at hres all;exact all hres
   | nil=>
    rw[hzip] at hres
    rw[hzip] at hmap
    simp only[resTop] at hres
    split at hres
    ·rename_i p hp
     split at hres
     ·rename_i t hlt
      split at hres
      ·rename_i t' rt' hct
       simp only[Option.some.injEq,Prod.mk.injEq] at hres
       obtain⟨rfl,rfl⟩:=hres
       obtain⟨u,q1,q2,q3⟩:=h.frame.tmp ad p hp
       obtain⟨u',m1,m2,m3⟩:=loadT_ok ht h.toHere hlt q2 q3
       obtain⟨FS',f,g1,g2⟩:=closeT_ok (tick:=st.tick) h.heap m2 m3 hct
       have hlist:fn.results.toList=[.cell ad ty']:=by rw[←hmap];rfl
       refine⟨[u'],by rw[hlist];rfl,fun k r v hr hv=>?_,FS',f,⟨u',[],f,[],rfl,by simp,g1,rfl,rfl⟩,g2.heap,g2.keeps⟩
       rw[hlist] at hr
       cases k with
       | succ k=>simp at hr
       | zero=>
        simp only[List.getElem?_cons_zero,Option.some.injEq] at hr hv
        subst hr;subst hv
        have hu:a.tmps.getD ad undef=u:=by simp[q1]
        simp only[resRun,hu]
        unfold Instr.loadAt at m1
        cases u with
        | pointer pa=>
         cases pa with
         | some ad'=>simpa[Instr.sureAddr,asAddr] using m1
         | none=>simp[Instr.sureAddr,Sem.run_bind] at m1
        | _=>simp[Instr.sureAddr,Sem.run_bind] at m1
      ·simp at hres
     ·simp at hres
    ·simp at hres
theorem finish_ok (ht:TiOk E) {fn:Func} {args:List Arg} {us:List Value} {st:St} {r:Res} {gh:Nat→G} {w:World} {FS:List Nat} {a:Act} (hsz:fn.results.size=fn.resultTypes.size)
  (hlen:us.length=args.length) (hok:okArgs (szOf E) z.w0.heap z.I0 0 args us z.F0) (h:At E z (lnt0 z.w0.heap args us) st gh w FS a) (hf:finish E fn args st=some r):
  ∃ v,(results fn a.tmps).run E.P w=.ok v w∧Back (szOf E) z args us r v w:=by
 unfold finish at hf
 split at hf
 ·rename_i ts rt hres
  split at hf
  ·rename_i os hos
   simp only[Option.some.injEq] at hf;subst hf
   have key:=res_key ht hsz h hres
   obtain⟨vs,k1,k2,FS1,f,k3,k4⟩:=key
   refine⟨_,run_results k1 k2,?_⟩
   have hsp:=spine_step k4.2 h.tk h.spine
   obtain⟨rt',FS2,fo,o1,o2,o3⟩:=outsOf_ok (h0:=z.w0.heap) (all:=args) (us:=us) k4.1 (fun k a r ha hr hre=>by
    obtain⟨_,_,g3⟩:=init_ok hok
    obtain⟨u,q1,q2⟩:=g3 k a ha
    rw[Nat.zero_add] at q2 ⊢
    refine⟨u,q1,fun r' hr' hv=>?_⟩
    rcases q2 with⟨q2,_⟩ | ⟨r0,q2,_,_,q5⟩
    ·rw[hr] at q2;simp at q2
    ·rw[hr] at q2
     simp only[Option.some.injEq] at q2
     subst q2
     rcases q5 with⟨_,_,b,q6,q7,arr0,q8,q9,q10⟩ | ⟨q6,_⟩ | ⟨q6,_⟩
     ·have hb:=hsp.2 k r' hr' hv
      refine⟨b,hb.trans q6,q7,arr0,_,q8,q9,q10,fun hv0=>?_⟩
      have hs:=hsp.1 k r' hr' hv0
      have hl:=lk_initRt (i:=0) ha
      rw[Nat.zero_add,hr] at hl
      simp only[lnt0,hl] at hs
      exact hs
     ·rw[hre] at q6;simp at q6
     ·rw[hre] at q6;simp at q6) (fun k=>by rw[Nat.zero_add]) hos
   have hI:∀ b,Inow z w (FS2++(fo++(f++[]))) b→Inow z w (f++fo) b:=fun b hb=>by
    rcases hb with hb | ⟨h1,h2,h3⟩
    ·exact .inl hb
    ·exact .inr ⟨h1,h2,fun hm=>h3 (by simp only[List.mem_append] at hm ⊢;grind)⟩
   have hmem:∀ b,b∈f++fo→b∈FS2++(fo++(f++[])):=fun b hm=>by simp only[List.mem_append] at hm ⊢;grind
   refine⟨o2.fr,⟨f,fo,okV_floats (fun b hb=>hI b (o3 b hb)) (okL_tupled k3),okOuts_floats hI o1,fun x=>?_,fun b hb=>⟨o2.lt b (hmem b hb),o2.zone b (hmem b hb)⟩⟩,fun hc=>hc⟩
   have:=o2.uniq x
   simp only[List.count_append,List.count_nil] at this ⊢
   omega
  ·simp at hf
 ·simp at hf
theorem mergeL_cells:∀ {ts cs row:List T},mergeL ts cs=some row→row.all lentCell=true
 | [],[],row,h=>by simp only[mergeL,Option.some.injEq] at h;subst h;rfl
 | [],_::_,row,h=>by simp[mergeL] at h
 | _::_,[],row,h=>by simp[mergeL] at h
 | t::ts,c::cs,row,h=>by
  simp only[mergeL] at h
  split at h
  ·rename_i xs hx
   have ih:=mergeL_cells hx
   split at h
   ·simp only[Option.some.injEq] at h;subst h;simp[lentCell,ih]
   ·split at h
    ·rename_i hc
     simp only[Option.some.injEq] at h;subst h
     cases c<;>simp[isOwn] at hc
     simp[lentCell,ih]
    ·simp at h
  ·simp at h
theorem merge_ok {sz h' h0 I I0}:∀ {row:List T} {vs vals':List Value} {k:Nat} {cells' row':List T} {f f0:List Nat},mergeL (viewFrom 0 0 [] k row) cells'=some row'→row.all lentCell=true→okL sz h' I cells' vals' f→
  skL sz h' h0 cells' (row.map bare) vals' vs→okL sz h0 I0 row vs f0→∃ f1,okL sz h' I row' vs f1∧(∀ x,f1.count x≤f.count x)∧skL sz h' h0 row' row vs vs
 | [],vs,vals',k,cells',row',f,f0,hm,_,hk,hs,h0=>by
  simp only[viewFrom] at hm
  cases cells' with
  | nil=>
   simp only[mergeL,Option.some.injEq] at hm
   subst hm
   simp only[okL] at h0
   obtain⟨rfl,_⟩:=h0
   exact⟨[],⟨rfl,rfl⟩,fun x=>by simp,by simp only[skL]⟩
  | cons _ _=>simp[mergeL] at hm
 | c::cs,vs,vals',k,cells',row',f,f0,hm,ha,hk,hs,h0=>by
  simp only[viewFrom] at hm
  cases cells' with
  | nil=>simp[mergeL] at hm
  | cons d ds=>
   simp only[mergeL] at hm
   split at hm
   ·rename_i xs hx
    simp only[List.all_cons,Bool.and_eq_true] at ha
    simp only[okL] at hk h0
    obtain⟨u',vs',f1,f2,rfl,rfl,k1,k2⟩:=hk
    obtain⟨u,us,g1,g2,rfl,rfl,m1,m2⟩:=h0
    simp only[List.map_cons,skL] at hs
    obtain⟨b,bt,v',vt',v,vt,e1,e2,e3,s1,s2,s3⟩:=hs
    simp only[List.cons.injEq] at e1 e2 e3
    obtain⟨rfl,rfl⟩:=e1
    obtain⟨rfl,rfl⟩:=e2
    obtain⟨rfl,rfl⟩:=e3
    obtain⟨fx,p1,p2,p3⟩:=merge_ok hx ha.2 k2 s3 m2
    have ha1:=ha.1
    cases c<;>simp[lentCell] at ha1
    ·simp only[view1,Option.some.injEq] at hm
     subst hm
     simp only[okV] at m1
     refine⟨fx,⟨u,us,[],fx,rfl,rfl,⟨m1.1,rfl⟩,p1⟩,fun x=>by have:=p2 x;simp only[List.count_append];omega,?_⟩
     simp only[skL]
     exact⟨_,_,u,us,u,us,rfl,rfl,rfl,fun _=>rfl,by simp only[skV],p3⟩
    ·rename_i e es
     simp only[view1] at hm
     split at hm
     ·rename_i hd
      simp only[Option.some.injEq] at hm
      subst hm
      have hu:=s1 hd
      subst hu
      refine⟨f1++fx,⟨u',us,f1,fx,rfl,rfl,k1,p1⟩,fun x=>by have:=p2 x;simp only[List.count_append];omega,?_⟩
      simp only[skL]
      exact⟨_,_,u',us,u',us,rfl,rfl,rfl,fun _=>rfl,s2,p3⟩
     ·simp at hm
   ·simp at hm
theorem finishL_ok (ht:TiOk E) {fn:Func} {la:Arg} {ys:List Value} {row:List T} {u:Value} {vs:List Value} {st:St} {r:Res} {gh:Nat→G} {w:World} {FS:List Nat} {a:Act} (hsz:fn.results.size=fn.resultTypes.size)
  (hla:LentArg la row u vs) (hrow:row.all lentCell=true) (hk:okL (szOf E) z.w0.heap z.I0 row vs z.F0)
  (h:At E z ⟨[],fun _=>row.map bare,fun _=>vs,fun _=>none⟩ st gh w FS a) (hf:finishL E fn (la::ys.map valArg) st=some r):
  ∃ x row',r.ret=.v x∧r.outs=[(0,row')]∧(results fn a.tmps).run E.P w=.ok x w∧BackL (szOf E) z vs row row' w:=by
 unfold finishL at hf
 split at hf
 ·rename_i x rt hres
  obtain⟨rs,k1,k2,FS1,f,k3,k4⟩:=res_key ht hsz h hres
  split at hf
  ·rename_i a0 as0 ro hargs hl
   simp only[List.cons.injEq] at hargs
   obtain⟨rfl,_⟩:=hargs
   split at hf
   ·rename_i hro
    obtain⟨c1,c2,c3⟩:=hro
    split at hf
    ·rename_i row' hm
     simp only[Option.some.injEq] at hf
     subst hf
     have hres1:=run_results (P:=E.P) (w:=w) k1 k2
     have hx:oneOf rs=x:=by
      simp only[okL] at k3
      obtain⟨u0,us0,f1,f2,rfl,rfl,h1,rfl,rfl⟩:=k3
      simp only[okV] at h1
      exact h1.1
     rw[hx] at hres1
     have hcells:la.t.cells=viewFrom 0 0 [] 0 row:=by cases hla<;>rfl
     rw[hcells] at hm
     have hsp:=(spine_step k4.2 h.tk h.spine).1 0 ro hl c2
     obtain⟨fd,rr,d1,d2,d3,d4⟩:=k4.1.del hl
     have hL:okL (szOf E) w.heap (Inow z w (rr++(fd++(f++[])))) ro.cells (gh 0).vals fd:=by
      unfold okRoot at d1
      split at d1
      ·exact d1.2
      ·rw[c3] at d1;simp at d1
     obtain⟨f1,p1,p2,p3⟩:=merge_ok hm hrow hL hsp hk
     have hsub:∀ b,b∈f1→b∈rr++(fd++(f++[])):=fun b hb=>by
      have h1:=List.count_pos_iff.2 hb
      have h2:=p2 b
      have h3:b∈fd:=List.count_pos_iff.1 (by omega)
      simp[h3]
     refine⟨x,row',rfl,rfl,hres1,d2.fr,⟨f1,okL_agree ⟨fun b hb=>⟨?_,rfl⟩,fun _ _=>rfl⟩ p1,fun b=>?_,fun b hb=>⟨d2.lt b (hsub b hb),d2.zone b (hsub b hb)⟩⟩,p3⟩
     ·rcases hb with hb | ⟨h1,h2,h3⟩
      ·exact .inl hb
      ·exact .inr ⟨h1,h2,fun hm=>h3 (hsub b hm)⟩
     ·have h1:=d2.uniq b
      have h2:=p2 b
      simp only[List.count_append] at h1
      omega
    ·simp at hf
   ·simp at hf
  ·simp at hf
 ·simp at hf
end finish
theorem mergeL_view {d:Nat}:∀ {row:List T} {k:Nat},row.all lentCell=true→mergeL (viewFrom d 0 [] k row) (row.map bare)=some row
 | [],k,_=>rfl
 | c::cs,k,h=>by
  simp only[List.all_cons,Bool.and_eq_true] at h
  have ih:=mergeL_view (d:=d) (k:=k+1) h.2
  have h1:=h.1
  cases c<;>simp[lentCell] at h1
  ·simp only[viewFrom,view1,List.map_cons,bare,mergeL,ih]
  ·simp only[viewFrom,view1,List.map_cons,bare,mergeL,ih,isOwn,if_true]
theorem boxed_wp {P:Program} {c:Code} {b t:Nat} {v:Value} {rest:Code} (hb:boxed c=some (b,t,v,rest)):
  (1<b∧b<t)∧∃ ty,∀ (Q:Exit→Act→World→Prop) (a:Act) (w:World),
   rest.wp P Q ((a.put (some b) (.pointer (some ⟨w.heap.size,0,none⟩))).put (some t) v) (w.alloc (.cells (a.eval (.tmp 0)).cells ty (0,0)))→c.wp P Q a w:=by
 unfold boxed at hb
 split at hb
 ·rename_i id ops rest'
  split at hb
  ·rename_i o1 o2 hops
   split at hb
   ·rename_i ty v' b' t' h1 h2 h3 h4
    split at hb
    ·rename_i hc
     obtain⟨g1,g2,hb1,hb2⟩:=hc
     simp only[Option.some.injEq,Prod.mk.injEq] at hb
     obtain⟨rfl,rfl,rfl,rfl⟩:=hb
     have g1:o1.guard=none:=by simpa using g1
     have g2:o2.guard=none:=by simpa using g2
     have hops':ops=#[o1,o2]:=by
      apply Array.ext'
      simpa using hops
     subst hops'
     refine⟨⟨hb1,hb2⟩,ty,fun Q a w hK=>wp_seq (wp_region ?_)⟩
     show wpOps P #[o1,o2] _ [0,1] a w
     rw[wpOps_cons]
     unfold wpOp
     have e0:(#[o1,o2]:Array Oper)[0]?=some o1:=rfl
     rw[e0]
     simp only
     have w1:Region.wanted o1 (yielded #[o1,o2] a.tmps)=true:=by unfold Region.wanted;rw[g1]
     rw[if_pos w1]
     refine .inl ?_
     unfold Oper.wp
     have r1:(execOp a.eval o1).run P w=.ok (.value (.pointer (some ⟨w.heap.size,0,none⟩))) (w.alloc (.cells (a.eval (.tmp 0)).cells ty (0,0))):=by
      simp only[execOp,h1,Instr.box,Sem.run_bind,run_newVar,Result.andThen_ok]
      rfl
     rw[r1]
     show wpOps P #[o1,o2] _ [1] (a.put o1.dst _) _
     rw[h3,wpOps_cons]
     unfold wpOp
     have e1:(#[o1,o2]:Array Oper)[1]?=some o2:=rfl
     rw[e1]
     simp only
     generalize a.put (some b') (.pointer (some ⟨w.heap.size,0,none⟩))=a1 at hK ⊢
     have w2:Region.wanted o2 (yielded #[o1,o2] a1.tmps)=true:=by unfold Region.wanted;rw[g2]
     rw[if_pos w2]
     refine .inl ?_
     unfold Oper.wp
     have r2:∀ w':World,(execOp a1.eval o2).run P w'=.ok (.value v') w':=fun w'=>by
      simp only[execOp,h2];rfl
     rw[r2]
     simp only[Oper.upon,h4]
     exact hK
    ·simp at hb
   ·simp at hb
  ·simp at hb
 ·simp at hb
section
variable {E:Env} {z:Zn}
theorem skL_bare {sz h' h0}:∀ {cs row vs' vs},skL sz h' h0 cs row vs' vs→row.all lentCell=true→skL sz h' h0 cs (row.map bare) vs' vs
 | [],row,vs',vs,h,_=>by simp only[skL] at h ⊢
 | c::cs,row,vs',vs,h,ha=>by
  simp only[skL] at h ⊢
  obtain⟨d,dt,u',ut',u,ut,rfl,rfl,rfl,h1,h2,h3⟩:=h
  simp only[List.all_cons,Bool.and_eq_true] at ha
  refine⟨bare d,dt.map bare,u',ut',u,ut,rfl,rfl,rfl,h1,?_,skL_bare h3 ha.2⟩
  have hd:=ha.1
  cases d<;>simp[lentCell] at hd
  ·cases c<;>first | (simp only[skV] at h2;obtain⟨es,he,_⟩:=h2;simp at he) | simp only[skV]
  ·exact h2
theorem startB_ok {row:List T} {vs:List Value} {y v:Value} {b t nt:Nat} {ty:TypeId} {a:Act} (hb:1<b) (hbt:b<t) (hu:Uniq z.F0) (hlt:∀ x,x∈z.F0→x<z.w0.heap.size) (hk:okL (szOf E) z.w0.heap z.I0 row vs z.F0)
  (hs:a.tmps.size=nt) (hd:a.defers=[]) (h1:a.tmps[1]?=some y) (h2:a.tmps[b]?=some (.pointer (some ⟨z.w0.heap.size,0,none⟩))) (h3:a.tmps[t]?=some v):
  At E z ⟨[],fun _=>row,fun _=>vs,fun _=>some ⟨z.w0.heap.size,[],[],ty,(0,0)⟩⟩ ⟨nt,[(1,.v y),(b,.ptr b 0 [] 0),(t,.v v)],[(b,⟨0,0,true,row⟩)],2⟩ (fun d=>if d=b then ⟨some ⟨z.w0.heap.size,[],[],ty,(0,0)⟩,vs⟩ else default)
   (z.w0.alloc (.cells vs.toArray ty (0,0))) (z.w0.heap.size::z.F0) a:=by
 have hn:z.w0.heap.size∉z.F0:=fun hm=>by have:=hlt _ hm;omega
 have hsz:(z.w0.alloc (.cells vs.toArray ty (0,0))).heap.size=z.w0.heap.size+1:=by show (z.w0.heap.push _).size=_;simp
 have hold:∀ x,x<z.w0.heap.size→(z.w0.alloc (.cells vs.toArray ty (0,0))).heap[x]?=z.w0.heap[x]?:=fun x hx=>by
  show (z.w0.heap.push _)[x]?=_
  rw[Array.getElem?_push_lt hx,Array.getElem?_eq_getElem hx]
 have hnew:(z.w0.alloc (.cells vs.toArray ty (0,0))).heap[z.w0.heap.size]?=some (.cells vs.toArray ty (0,0)):=by
  show (z.w0.heap.push _)[z.w0.heap.size]?=_
  simp
 have hI:∀ x,z.I0 x→Inow z (z.w0.alloc (.cells vs.toArray ty (0,0))) ((z.w0.heap.size::z.F0)++[]) x∧(z.w0.alloc (.cells vs.toArray ty (0,0))).heap[x]?=z.w0.heap[x]?:=fun x hx=>⟨.inl hx,hold x (z.ok x hx).1⟩
 have hk':okL (szOf E) (z.w0.alloc (.cells vs.toArray ty (0,0))).heap (Inow z (z.w0.alloc (.cells vs.toArray ty (0,0))) ((z.w0.heap.size::z.F0)++[])) row vs z.F0:=
  okL_agree ⟨hI,fun x hx=>hold x (hlt x hx)⟩ hk
 have hroots:okRts (szOf E) (z.w0.alloc (.cells vs.toArray ty (0,0))).heap (Inow z (z.w0.alloc (.cells vs.toArray ty (0,0))) ((z.w0.heap.size::z.F0)++[])) (fun d=>if d=b then (⟨some ⟨z.w0.heap.size,[],[],ty,(0,0)⟩,vs⟩:G) else default) [(b,(⟨0,0,true,row⟩:Root))] (z.w0.heap.size::z.F0):=by
  refine⟨z.w0.heap.size::z.F0,[],by simp,?_,rfl⟩
  simp only[if_true]
  exact⟨rfl,z.F0,vs.toArray,rfl,hnew,fun i _ h=>by simp only at h;omega,by simp,hk'⟩
 have hlk:∀ d r,lk [(b,(⟨0,0,true,row⟩:Root))] d=some r→d=b∧r=⟨0,0,true,row⟩:=fun d r h=>by
  simp only[lk] at h
  split at h
  ·rename_i e;simp only[Option.some.injEq] at h;exact⟨e.symm,h.symm⟩
  ·simp at h
 refine⟨⟨⟨⟨fun p hp=>by simp at hp,trivial⟩,hroots,?_,?_,?_,⟨rfl,rfl,rfl,by omega,fun x hx _=>hold x hx⟩⟩,?_,⟨hs,hd,?_⟩⟩,?_,fun p hp=>by simp at hp,fun p hp=>by simp at hp,(by show 0<2;omega),?_,?_⟩
 ·intro x
  have:=hu x
  simp only[List.append_nil,List.count_cons]
  split
  ·rename_i e
   have e:z.w0.heap.size=x:=by simpa using e
   subst e
   rw[List.count_eq_zero.2 hn]
   exact Nat.le_refl _
  ·simpa using this
 ·intro x hx
  simp only[List.append_nil,List.mem_cons] at hx
  rw[hsz]
  rcases hx with rfl | hx
  ·omega
  ·have:=hlt x hx;omega
 ·intro x hx
  simp only[List.append_nil,List.mem_cons] at hx
  rcases hx with rfl | hx
  ·exact .inr (Nat.le_refl _)
  ·exact .inl hx
 ·intro d r hr
  obtain⟨_,rfl⟩:=hlk d r hr
  simp
 ·intro d t' hl
  replace hl:lk [(1,T.v y),(b,T.ptr b 0 [] 0),(t,T.v v)] d=some t':=hl
  simp only[lk] at hl
  split at hl
  ·rename_i e;subst e;simp only[Option.some.injEq] at hl;subst hl
   exact⟨y,h1,okX_v.2 rfl,trivial⟩
  ·split at hl
   ·rename_i e;subst e;simp only[Option.some.injEq] at hl;subst hl
    have hs0:Stm 2 [(b,(⟨0,0,true,row⟩:Root))] b 0:=⟨by omega,fun h=>by omega⟩
    exact⟨_,h2,⟨⟨_,rfl⟩,fun r hr _=>⟨⟨z.w0.heap.size,[],[],ty,(0,0)⟩,by simp,rfl⟩⟩,hs0⟩
   ·split at hl
    ·rename_i e;subst e;simp only[Option.some.injEq] at hl;subst hl
     exact⟨v,h3,okX_v.2 rfl,trivial⟩
    ·simp at hl
 ·exact⟨fun p hp=>by simp at hp;rcases hp with rfl | rfl<;>simp<;>omega,fun p hp=>by simp at hp;subst hp;simpa using hbt,fun p hp=>by simp at hp,trivial⟩
 ·intro d r hl _
  obtain⟨rfl,rfl⟩:=hlk d r hl
  simp only[if_true]
  have h0:okRts (szOf E) z.w0.heap z.I0 (fun _=>(⟨none,vs⟩:G)) [(0,(⟨0,0,false,row⟩:Root))] z.F0:=⟨z.F0,[],by simp,⟨rfl,hk⟩,rfl⟩
  exact skL_self (d:=0) h0 (fun x hx=>hold x (hlt x hx)) (r:=⟨0,0,false,row⟩) (by simp[lk])
 ·intro d r hl _
  obtain⟨rfl,rfl⟩:=hlk d r hl
  simp only[if_true]
theorem finishB_ok (ht:TiOk E) {fn:Func} {row:List T} {vs:List Value} {st:St} {r:Res} {b:Nat} {gh:Nat→G} {w:World} {FS:List Nat} {a:Act} (hsz:fn.results.size=fn.resultTypes.size)
  (hrow:row.all lentCell=true) (hk:okL (szOf E) z.w0.heap z.I0 row vs z.F0)
  {b0:Nat→Option Blk} (h:At E z ⟨[],fun _=>row,fun _=>vs,b0⟩ st gh w FS a) (hf:finishB E fn b row st=some r):
  ∃ x row',r.ret=.v x∧r.outs=[(0,row')]∧(results fn a.tmps).run E.P w=.ok x w∧BackL (szOf E) z vs row row' w:=by
 unfold finishB at hf
 split at hf
 ·rename_i x rt hres
  obtain⟨rs,k1,k2,FS1,f,k3,k4⟩:=res_key ht hsz h hres
  split at hf
  ·rename_i ro hl
   split at hf
   ·rename_i hro
    obtain⟨c1,c2,c3⟩:=hro
    split at hf
    ·rename_i row' hm
     simp only[Option.some.injEq] at hf
     subst hf
     have hres1:=run_results (P:=E.P) (w:=w) k1 k2
     have hx:oneOf rs=x:=by
      simp only[okL] at k3
      obtain⟨u0,us0,f1,f2,rfl,rfl,h1,rfl,rfl⟩:=k3
      simp only[okV] at h1
      exact h1.1
     rw[hx] at hres1
     have hsp:=skL_bare ((spine_step k4.2 h.tk h.spine).1 b ro hl c2) hrow
     obtain⟨fd,rr,d1,d2,d3,d4⟩:=k4.1.del hl
     obtain⟨fs',hfs,hL⟩:∃ fs',(∀ x,fs'.count x≤fd.count x)∧okL (szOf E) w.heap (Inow z w (rr++(fd++(f++[])))) ro.cells (gh b).vals fs':=by
      unfold okRoot at d1
      split at d1
      ·rw[c3] at d1;simp at d1
      ·obtain⟨_,fs',arr,rfl,_,_,_,e5⟩:=d1
       exact⟨fs',fun x=>by simp only[List.count_cons];omega,e5⟩
     obtain⟨f1,p1,p2,p3⟩:=merge_ok hm hrow hL hsp hk
     have hsub:∀ b,b∈f1→b∈rr++(fd++(f++[])):=fun b hb=>by
      have h1:=List.count_pos_iff.2 hb
      have h2:=p2 b
      have h4:=hfs b
      have h3:b∈fd:=List.count_pos_iff.1 (by omega)
      simp[h3]
     refine⟨x,row',rfl,rfl,hres1,d2.fr,⟨f1,okL_agree ⟨fun b hb=>⟨?_,rfl⟩,fun _ _=>rfl⟩ p1,fun b=>?_,fun b hb=>⟨d2.lt b (hsub b hb),d2.zone b (hsub b hb)⟩⟩,p3⟩
     ·rcases hb with hb | ⟨h1,h2,h3⟩
      ·exact .inl hb
      ·exact .inr ⟨h1,h2,fun hm=>h3 (hsub b hm)⟩
     ·have h1:=d2.uniq b
      have h2:=p2 b
      have h4:=hfs b
      simp only[List.count_append] at h1
      omega
    ·simp at hf
   ·simp at hf
  ·simp at hf
 ·simp at hf
end
section finish
variable {E:Env} {z:Zn}
def goodFn (E:Env) (f:FuncId):Bool:=
 match E.P.funcs[f]? with
 | some fn => !(fn.name == "runtime.NumGoroutine") && decide (fn.results.size = fn.resultTypes.size) && (match fn.body with | some c => codeOk (E.pairs f) c | none => false)
 | none=>false
structure Able (E:Env):Prop where
 ti:TiOk E
 mix:E.P.follows .mixedOrders=true
 good:∀ f,E.good f=true→goodFn E f=true
 ext:∀ f g,E.ext f=some g→∀ args r,g args=some r→Sound E f args r∧Enters E f
 view:∀ f v,E.view f=some v→ViewOk E f v
theorem boxedM_lends {ms:List Mode} (h:boxedM ms=true):lends ms=true:=by
 unfold boxedM at h
 split at h
 ·rfl
 ·simp at h
theorem finishB_outs {fn:Func} {b:Nat} {row:List T} {st:St} {r:Res} (h:finishB E fn b row st=some r):∃ x row',r.ret=.v x∧r.outs=[(0,row')]∧row'.all lentCell=true:=by
 unfold finishB at h
 split at h
 ·split at h
  ·split at h
   ·split at h
    ·rename_i hm
     simp only[Option.some.injEq] at h
     subst h
     exact⟨_,_,rfl,rfl,mergeL_cells hm⟩
    ·simp at h
   ·simp at h
  ·simp at h
 ·simp at h
theorem bodyB_split {call:FuncId→List Arg→Option Res} {n:Nat} {f:FuncId} {fn:Func} {args:List Arg} {r:Res} (h:evBodyB E call n f fn args=some r):
  ∃ c b t v rest cs ro y row x st,fn.body=some c∧boxed c=some (b,t,v,rest)∧args=[⟨.agg cs,some ro⟩,⟨.v y,none⟩]∧t<fn.ntmps∧mergeL cs ro.cells=some row∧
   evCode E call f (evLoop E call f n) rest ⟨fn.ntmps,[(1,.v y),(b,.ptr b 0 [] 0),(t,.v v)],[(b,⟨0,0,true,row⟩)],2⟩=some (x,st)∧(x=.normal∨x=.ret)∧finishB E fn b row st=some r:=by
 unfold evBodyB at h
 split at h
 ·simp at h
 ·rename_i c hc
  split at h
  ·simp at h
  ·rename_i p hp
   obtain⟨b,t,v,rest⟩:=p
   split at h
   ·rename_i cs ro y
    split at h
    ·rename_i hcond
     split at h
     ·rename_i row hm
      split at h
      ·rename_i st hev
       exact⟨c,b,t,v,rest,cs,ro,y,row,_,st,hc,hp,rfl,hcond.2.2.2,hm,hev,.inl rfl,h⟩
      ·rename_i st hev
       exact⟨c,b,t,v,rest,cs,ro,y,row,_,st,hc,hp,rfl,hcond.2.2.2,hm,hev,.inr rfl,h⟩
      ·simp at h
     ·simp at h
    ·simp at h
   ·simp at h
theorem bodyB_cells {call:FuncId→List Arg→Option Res} {n:Nat} {f:FuncId} {fn:Func} {args:List Arg} {r:Res} (h:evBodyB E call n f fn args=some r):∀ i row',(i,row')∈r.outs→row'.all lentCell=true:=by
 obtain⟨c,b,t,v,rest,cs,ro,y,row,x,st,_,_,_,_,_,_,_,hf⟩:=bodyB_split h
 obtain⟨x0,row0,_,h2,h3⟩:=finishB_outs hf
 intro i row' hm
 rw[h2] at hm
 simp only[List.mem_singleton,Prod.mk.injEq] at hm
 rw[hm.2];exact h3
theorem codeOk_rest {ps:Nat→List (Nat×Nat)} {c:Code} {p:Nat×Nat×Value×Code} (h:boxed c=some p) (hc:codeOk ps c=true):codeOk ps p.2.2.2=true:=by
 unfold boxed at h
 split at h
 ·simp only[codeOk,Bool.and_eq_true] at hc
  split at h
  ·split at h
   ·split at h
    ·simp only[Option.some.injEq] at h;subst h;exact hc.2
    ·simp at h
   ·simp at h
  ·simp at h
 ·simp at h
theorem bodyB_ok (ht:TiOk E) (hmix:E.P.follows .mixedOrders=true) {call:FuncId→List Arg→Option Res} (hcall:∀ f args r,call f args=some r→Sound E f args r∧Enters E f) {n:Nat} {f:FuncId} {fn:Func} {c:Code} {args:List Arg} {r:Res}
  (hf:E.P.funcs[f]?=some fn) (hb:fn.body=some c) (hsz:fn.results.size=fn.resultTypes.size) (hbody:codeOk (E.pairs f) c=true) (h:evBodyB E call n f fn args=some r)
  {z:Zn} {la:Arg} {ys:List Value} {row:List T} {u:Value} {vs:List Value} (hargs:args=la::ys.map valArg) (hla:LentArg la row u vs) (hrow:row.all lentCell=true)
  (hu:Uniq z.F0) (hlt:∀ b,b∈z.F0→b<z.w0.heap.size) (hk:okL (szOf E) z.w0.heap z.I0 row vs z.F0):
  ∃ x row',r.ret=.v x∧r.outs=[(0,row')]∧Calls E.P f (u::ys).toArray z.w0 fun
   | .returned u',w'=>u'=x∧BackL (szOf E) z vs row row' w'
   | _,_=>False:=by
 obtain⟨c',b,t,v,rest,cs,ro,y,row1,x,st,g1,g2,g3,g4,g5,g6,g7,g8⟩:=bodyB_split h
 rw[hb] at g1
 simp only[Option.some.injEq] at g1
 subst g1
 rw[hargs] at g3
 simp only[List.cons.injEq] at g3
 obtain⟨e1,e2⟩:=g3
 subst e1
 obtain⟨rfl,hrow1⟩:u=.agg vs.toArray∧row1=row:=by
  generalize hq:(⟨.agg cs,some ro⟩:Arg)=q at hla
  cases hla with
  | one=>simp at hq
  | row=>
   simp only[Arg.mk.injEq,T.agg.injEq,Option.some.injEq] at hq
   obtain⟨rfl,rfl⟩:=hq
   rw[mergeL_view hrow] at g5
   exact⟨rfl,by simpa using g5.symm⟩
 subst hrow1
 obtain⟨rfl,_⟩:ys=[y]∧True:=by
  match ys,e2 with
  | [y'],e2=>simp only[List.map_cons,List.map_nil,List.cons.injEq,and_true,valArg,Arg.mk.injEq,T.v.injEq] at e2;exact⟨by rw[e2],trivial⟩
  | [],e2=>simp at e2
  | _::_::_,e2=>simp at e2
 obtain⟨x0,row0,r1,r2,_⟩:=finishB_outs g8
 obtain⟨⟨hb1,hb2⟩,ty,hwp⟩:=boxed_wp (P:=E.P) g2
 refine⟨x0,row0,r1,r2,calls_of_wp hf hb (hwp _ _ _ ?_)⟩
 have hn:2≤fn.ntmps:=by omega
 generalize ha0:({ tmps:=(Value.agg vs.toArray::[y]).toArray++Array.replicate (fn.ntmps - (Value.agg vs.toArray::[y]).toArray.size) undef,defers:=[] }:Act)=a0
 have hsz0:a0.tmps.size=fn.ntmps:=by rw[←ha0];simp;omega
 have hev:a0.eval (.tmp 0)=.agg vs.toArray:=by rw[←ha0];simp[Act.eval,Array.getElem?_append]
 have hy:a0.tmps[1]?=some y:=by rw[←ha0];simp[Array.getElem?_append]
 have hd0:a0.defers=[]:=by rw[←ha0]
 rw[hev]
 refine whole_ok (me:=f) ht hmix hcall n rest z _ _ st x _ _ _ _ _ (codeOk_rest g2 hbody) (startB_ok (b:=b) (t:=t) (nt:=fn.ntmps) (v:=v) (y:=y) (ty:=ty) hb1 hb2 hu hlt hk ?_ ?_ ?_ ?_ ?_) g6 fun gh' w' FS' a' hat=>?_
 ·rw[Act.put_size,Act.put_size];exact hsz0
 ·rw[Act.put_def,Act.put_def];exact hd0
 ·simp only[Act.put]
  rw[Array.getElem?_setIfInBounds_ne (by omega),Array.getElem?_setIfInBounds_ne (by omega)]
  exact hy
 ·simp only[Act.put]
  rw[Array.getElem?_setIfInBounds_ne (by omega),Array.getElem?_setIfInBounds_self_of_lt (by omega)]
 ·simp only[Act.put]
  rw[Array.getElem?_setIfInBounds_self_of_lt (by simp;omega)]
 ·obtain⟨x1,row2,h1,h2,h3,h4⟩:=finishB_ok ht hsz hrow hk hat g8
  rw[r1] at h1
  rw[r2] at h2
  simp only[T.v.injEq,List.cons.injEq,Prod.mk.injEq,and_true,true_and] at h1 h2
  subst h1;subst h2
  rcases g7 with rfl | rfl
  ·exact⟨hat.frame.defers,x0,h3,rfl,h4⟩
  ·exact⟨hat.frame.defers,x0,h3,rfl,h4⟩
theorem evF_ok (h:Able E):∀ (n:Nat) (f:FuncId) (args:List Arg) (r:Res),evF E n f args=some r→Sound E f args r∧Enters E f
 | 0,f,args,r,he=>by simp[evF] at he
 | n+1,f,args,r,he=>by
  simp only[evF] at he
  split at he
  ·rename_i g hg
   exact h.ext f g hg args r he
  ·split at he
   ·rename_i hgood
    have hfn:=h.good f hgood
    unfold goodFn at hfn
    split at he
    ·simp at he
    ·rename_i fn hf
     rw[hf] at hfn
     simp only[Bool.and_eq_true,Bool.not_eq_true',decide_eq_true_eq] at hfn
     obtain⟨⟨hname,hsz⟩,hbody⟩:=hfn
     cases hb:fn.body with
     | none=>rw[hb] at hbody;simp at hbody
     | some c=>
      rw[hb] at hbody
      simp only at hbody
      by_cases hbm:boxedM (E.mode f)=true
      ·rw[if_pos hbm] at he
       have hl:=boxedM_lends hbm
       exact⟨⟨fun _ i row' hm=>bodyB_cells he i row' hm,fun h0=>by rw[hl] at h0;simp at h0,fun _ z la ys row u vs hargs hla hrow hu hlt hk=>bodyB_ok h.ti h.mix (fun f args r he=>evF_ok h n f args r he) hf hb hsz hbody he hargs hla hrow hu hlt hk,h.view f⟩,fn,hf,hname,by rw[hb];rfl⟩
      rw[if_neg hbm] at he
      have hfin:∀ st,(x:Ex)→evCode E (evF E n) f (evLoop E (evF E n) f n) c ⟨max fn.ntmps args.length,initFr 0 args,initRt 0 args,2⟩=some (x,st)→(x=.normal∨x=.ret)∧finishX E f fn args st=some r:=fun st x hev=>by
       unfold evBody at he
       rw[hb] at he
       simp only[hev] at he
       cases x with
       | normal=>exact⟨.inl rfl,he⟩
       | ret=>exact⟨.inr rfl,he⟩
       | exit i=>simp at he
      have hsome:∃ x st,evCode E (evF E n) f (evLoop E (evF E n) f n) c ⟨max fn.ntmps args.length,initFr 0 args,initRt 0 args,2⟩=some (x,st):=by
       unfold evBody at he
       rw[hb] at he
       simp only at he
       cases hev:evCode E (evF E n) f (evLoop E (evF E n) f n) c ⟨max fn.ntmps args.length,initFr 0 args,initRt 0 args,2⟩ with
       | none=>rw[hev] at he;simp at he
       | some p=>exact⟨p.1,p.2,rfl⟩
      obtain⟨x,st,hev⟩:=hsome
      obtain⟨hx,hfx⟩:=hfin st x hev
      refine⟨⟨fun hl i row' hm=>?_,fun hl z us hu hlt hk=>?_,fun hl z la ys row u vs hargs hla hrow hu hlt hk=>?_,h.view f⟩,fn,hf,hname,by rw[hb];rfl⟩
      ·unfold finishX at hfx
       rw[if_pos hl] at hfx
       unfold finishL at hfx
       split at hfx
       ·split at hfx
        ·split at hfx
         ·split at hfx
          ·rename_i row hmm
           simp only[Option.some.injEq] at hfx
           subst hfx
           simp only[List.mem_singleton,Prod.mk.injEq] at hm
           obtain⟨_,rfl⟩:=hm
           exact mergeL_cells hmm
          ·simp at hfx
         ·simp at hfx
        ·simp at hfx
       ·simp at hfx
      ·unfold finishX at hfx
       rw[if_neg (by rw[hl];simp)] at hfx
       obtain⟨hlen,_,_⟩:=init_ok hk
       refine calls_of_wp hf hb ?_
       refine whole_ok (me:=f) h.ti h.mix (fun f args r he=>evF_ok h n f args r he) n c z (lnt0 z.w0.heap args us) _ st x _ z.w0 z.F0 _ _ hbody (begin_ok (nt:=fn.ntmps) hu hlt hk) hev fun gh' w' FS' a' hat=>?_
       obtain⟨v,h1,h2⟩:=finish_ok h.ti hsz hlen hk hat hfx
       rcases hx with rfl | rfl
       ·exact⟨hat.frame.defers,v,h1,h2⟩
       ·exact⟨hat.frame.defers,v,h1,h2⟩
      ·subst hargs
       unfold finishX at hfx
       rw[if_pos hl] at hfx
       have hret:∃ x row',r.ret=.v x∧r.outs=[(0,row')]:=by
        unfold finishL at hfx
        split at hfx
        ·split at hfx
         ·split at hfx
          ·split at hfx
           ·simp only[Option.some.injEq] at hfx
            subst hfx
            exact⟨_,_,rfl,rfl⟩
           ·simp at hfx
          ·simp at hfx
         ·simp at hfx
        ·simp at hfx
       obtain⟨x0,row0,r1,r2⟩:=hret
       refine⟨x0,row0,r1,r2,calls_of_wp hf hb ?_⟩
       refine whole_ok (me:=f) h.ti h.mix (fun f args r he=>evF_ok h n f args r he) n c z _ _ st x _ z.w0 z.F0 _ _ hbody (beginL_ok (nt:=fn.ntmps) hla hrow hu hlt hk) hev fun gh' w' FS' a' hat=>?_
       obtain⟨x1,row1,h1,h2,h3,h4⟩:=finishL_ok h.ti hsz hla hrow hk hat hfx
       rw[r1] at h1
       rw[r2] at h2
       simp only[T.v.injEq,List.cons.injEq,Prod.mk.injEq,and_true,true_and] at h1 h2
       subst h1;subst h2
       rcases hx with rfl | rfl
       ·exact⟨hat.frame.defers,x0,h3,rfl,h4⟩
       ·exact⟨hat.frame.defers,x0,h3,rfl,h4⟩
   ·simp at he
end finish
end Go.TM
