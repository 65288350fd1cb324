/- Of the tree machine: its evaluator and why it is sound. -/
import Derived.Test.YtldklhcklkaplaaGreatDoorTTm1
import Derived.Laws.Append
import Derived.Laws.IdiomStrings
set_option linter.unusedSimpArgs false
set_option linter.unusedVariables false
namespace Go.TM
open Go
def okMix (x:Cx) (S:Nat→Nat→Prop):List T→List Value→List Nat→Prop
 | [],us,fs=>us=[]∧fs=[]
 | c::cs,us,fs=>∃ u us' f1 f2,us=u::us'∧fs=f1++f2∧(isOwn c=true→okV x.sz x.h x.I c u f1)∧
   (isOwn c=false→f1=[]∧∀ d v p k,okX0 x (view1 d v p k c) u∧st0 S (view1 d v p k c))∧okMix x S cs us' f2
theorem okMix_of_L {x:Cx} {S}:∀ {cs us f},okL x.sz x.h x.I cs us f→∃ f',(∀ b,f'.count b≤f.count b)∧okMix x S cs us f'
 | [],us,f,hk=>by simp only[okL] at hk;exact⟨[],fun b=>by simp,hk.1,rfl⟩
 | c::cs,us,f,hk=>by
  simp only[okL] at hk
  obtain⟨u,us',f1,f2,rfl,rfl,h1,h2⟩:=hk
  obtain⟨f',g1,g2⟩:=okMix_of_L (S:=S) h2
  cases hc:isOwn c with
  | true=>exact⟨f1++f',fun b=>by have:=g1 b;simp only[List.count_append];omega,u,us',f1,f',rfl,rfl,fun _=>h1,fun h=>by rw[hc] at h;simp at h,g2⟩
  | false=>
   refine⟨f',fun b=>by have:=g1 b;simp only[List.count_append];omega,u,us',[],f',rfl,rfl,fun h=>by rw[hc] at h;simp at h,fun _=>⟨rfl,fun d v p k=>?_⟩,g2⟩
   cases c with
   | agg _=>exact⟨by show okV x.sz x.h x.I .dead u [];simp[okV],trivial⟩
   | tup _=>exact⟨by show okV x.sz x.h x.I .dead u [];simp[okV],trivial⟩
   | obx _=>exact⟨by show okV x.sz x.h x.I .dead u [];simp[okV],trivial⟩
   | own _ _=>simp[isOwn] at hc
   | _=>
    have:=okV_cell h1 rfl rfl
    subst this
    exact okV_0 h1
theorem okMix_root {x:Cx} {S}:∀ {cs us f},okMix x S cs us f→okL x.sz x.h x.I (cs.map bare) us f
 | [],us,f,h=>by simp only[okMix] at h;simpa[okL] using h
 | c::cs,us,f,h=>by
  simp only[okMix] at h
  obtain⟨u,us',f1,f2,rfl,rfl,h1,h2,h3⟩:=h
  simp only[List.map_cons,okL]
  refine⟨u,us',f1,f2,rfl,rfl,?_,okMix_root h3⟩
  cases hc:isOwn c with
  | true=>cases c<;>simp only[isOwn] at hc<;>first | exact h1 rfl | simp at hc
  | false=>
   obtain⟨rfl,_⟩:=h2 hc
   cases c<;>simp only[isOwn] at hc<;>first | (simp at hc;done) | simp[bare,okV]
structure Rooted (y:Cx) (d tick:Nat) (cells:List T) (vals:List Value):Prop where
 root:∀ r,lk y.rt d=some r→r.hver=tick→r.cells=cells
 vals:(y.gh d).vals=vals
theorem okMix_view {x y:Cx} {S S':Nat→Nat→Prop} {d tick:Nat} {cells:List T} {vals:List Value} (kp:Keeps x y S) (hS:∀ a b,S a b→S' a b) (R:Rooted y d tick cells vals):
  ∀ {cs us f} (k:Nat),okMix x S cs us f→(anyOwn cs=true→S' d tick)→(∀ j t,cs[j]?=some t→cells[k+j]?=some (bare t))→(∀ j u,us[j]?=some u→vals[k+j]?=some u)→
   All2 (okX0 y) (viewFrom d tick [] k cs) us∧∀ t,t∈viewFrom d tick [] k cs→st0 S' t
 | [],us,f,k,h,_,_,_=>by simp only[okMix] at h;exact⟨h.1,fun t ht=>by simp[viewFrom] at ht⟩
 | c::cs,us,f,k,h,ha,hc,hu=>by
  simp only[okMix] at h
  obtain⟨u,us',f1,f2,rfl,rfl,h1,h2,h3⟩:=h
  obtain⟨g1,g2⟩:=okMix_view kp hS R (k+1) h3 (fun h=>ha (by simp[anyOwn,h])) (fun j t hj=>by have:=hc (j+1) t (by simpa using hj);(have e:k+(j+1)=k+1+j:=by omega);rwa[e] at this)
   (fun j v hj=>by have:=hu (j+1) v (by simpa using hj);(have e:k+(j+1)=k+1+j:=by omega);rwa[e] at this)
  have key:okX0 y (view1 d tick [] k c) u∧st0 S' (view1 d tick [] k c):=by
   cases hcc:isOwn c with
   | true=>
    have hv:=h1 hcc
    cases c<;>simp only[isOwn] at hcc<;>try (simp at hcc;done)
    rename_i e es
    refine⟨⟨?_,?_⟩,ha (by simp[anyOwn,isOwn])⟩
    ·simp only[okV] at hv
     rcases hv with⟨rfl,_,a,rfl⟩ | ⟨b,o,cap,arr,el,fz,fs',rfl,_⟩
     ·exact⟨a,0,rfl⟩
     ·exact⟨_,_,rfl⟩
    ·intro r q1 q2 cs' vs' ad q3 e' es' q4 q5
     simp only[loc,Option.some.injEq,Prod.mk.injEq] at q3
     obtain⟨rfl,rfl,_⟩:=q3
     rw[R.vals]
     simpa using hu 0 u (by simp)
   | false=>
    obtain⟨_,h4⟩:=h2 hcc
    obtain⟨q1,q2⟩:=h4 d tick [] k
    refine⟨kp.x0 q2 q1,?_⟩
    cases hv:view1 d tick [] k c<;>rw[hv] at q2<;>first | exact trivial | exact hS _ _ q2
  refine⟨⟨u,us',rfl,key.1,g1⟩,fun t ht=>?_⟩
  simp only[viewFrom] at ht
  rcases List.mem_cons.1 ht with rfl | ht
  ·exact key.2
  ·exact g2 t ht
theorem okMix_view0 {x y:Cx} {S S':Nat→Nat→Prop} {d tick:Nat} (kp:Keeps x y S) (hS:∀ a b,S a b→S' a b):
  ∀ {cs us f} (k:Nat),okMix x S cs us f→anyOwn cs=false→All2 (okX0 y) (viewFrom d tick [] k cs) us∧∀ t,t∈viewFrom d tick [] k cs→st0 S' t
 | [],us,f,k,h,_=>by simp only[okMix] at h;exact⟨h.1,fun t ht=>by simp[viewFrom] at ht⟩
 | c::cs,us,f,k,h,ha=>by
  simp only[okMix] at h
  obtain⟨u,us',f1,f2,rfl,rfl,h1,h2,h3⟩:=h
  simp only[anyOwn,Bool.or_eq_false_iff] at ha
  obtain⟨g1,g2⟩:=okMix_view0 kp hS (d:=d) (tick:=tick) (k+1) h3 ha.2
  obtain⟨_,h4⟩:=h2 ha.1
  obtain⟨q1,q2⟩:=h4 d tick [] k
  refine⟨⟨u,us',rfl,kp.x0 q2 q1,g1⟩,fun t ht=>?_⟩
  simp only[viewFrom] at ht
  rcases List.mem_cons.1 ht with rfl | ht
  ·cases hv:view1 d tick [] k c<;>rw[hv] at q2<;>first | exact trivial | exact hS _ _ q2
  ·exact g2 t ht
theorem okMix_kp {x y:Cx} {S:Nat→Nat→Prop} (kp:Keeps x y S):∀ {cs us f},(∀ b,b∈f→y.h[b]?=x.h[b]?)→okMix x S cs us f→okMix y S cs us f
 | [],us,f,_,h=>h
 | c::cs,us,f,hf,h=>by
  simp only[okMix] at h ⊢
  obtain⟨u,us',f1,f2,rfl,rfl,h1,h2,h3⟩:=h
  exact⟨u,us',f1,f2,rfl,rfl,fun hc=>by rw[kp.sz];exact okV_agree ⟨kp.old,fun b hb=>hf b (by simp[hb])⟩ (h1 hc),
   fun hc=>⟨(h2 hc).1,fun d v p k=>⟨kp.x0 ((h2 hc).2 d v p k).2 ((h2 hc).2 d v p k).1,((h2 hc).2 d v p k).2⟩⟩,okMix_kp kp (fun b hb=>hf b (by simp[hb])) h3⟩
def rtUp (rt:List (Nat×Root)) (d:Nat):Option Root→List (Nat×Root)
 | none=>rt
 | some r=>up rt d r
theorem Stm_new {tick:Nat} {rt:List (Nat×Root)} {d:Nat} {r:Root} (hv:r.ver=tick):(∀ a b,Stm tick rt a b→Stm tick (up rt d r) a b)∧Stm tick (up rt d r) d tick:=by
 refine⟨fun a b h=>⟨h.1,fun hb=>?_⟩,Nat.le_refl _,fun _=>⟨r,lk_up_self _ _ _,hv⟩⟩
 obtain⟨r0,h1,h2⟩:=h.2 hb
 by_cases hd:a=d
 ·subst hd;exact⟨r,lk_up_self _ _ _,hv⟩
 ·exact⟨r0,by rw[lk_up_ne _ _ _ _ hd];exact h1,h2⟩
def Slot (sz:TypeId→Nat) (z:Zn) (tick d:Nat) (rt:List (Nat×Root)) (gh:Nat→G) (w:World) (I:Nat→Prop) (e:Eff) (u:Value):Prop:=
 ∃ gh' FS',HRel sz z (rtUp rt d e.root) gh' w FS' []∧
  Keeps ⟨sz,w.heap,I,rt,gh⟩ ⟨sz,w.heap,Inow z w (FS'++[]),rtUp rt d e.root,gh'⟩ (Stm tick rt)∧
  okX ⟨sz,w.heap,Inow z w (FS'++[]),rtUp rt d e.root,gh'⟩ e.val u∧stX (Stm tick (rtUp rt d e.root)) e.val
theorem drop_floats {sz z rt gh w FS X} (r:HRel sz z rt gh w FS X):HRel sz z rt gh w FS []∧∀ b,Inow z w (FS++X) b→Inow z w (FS++[]) b:=
 ⟨r.same fun x=>by simp,fun b hb=>r.imm_grow (Nat.le_refl _) (fun b hb=>.inl (by simp at hb;simp[hb])) hb⟩
theorem fewer_floats {sz z rt gh w FS X X'} (r:HRel sz z rt gh w FS X) (h:∀ x,X'.count x≤X.count x):HRel sz z rt gh w FS X'∧∀ b,Inow z w (FS++X) b→Inow z w (FS++X') b:=by
 refine⟨r.same h,fun b hb=>r.imm_grow (Nat.le_refl _) (fun b hb=>.inl ?_) hb⟩
 simp only[List.mem_append] at hb ⊢
 rcases hb with hb | hb
 ·exact .inl hb
 ·right
  have:=List.count_pos_iff.2 hb
  have:=h b
  rw[←List.count_pos_iff];omega
theorem slot_mix {sz z rt gh w FS f cs us} {tick d:Nat} (r:HRel sz z rt gh w FS (f++[])) (hk:okMix ⟨sz,w.heap,Inow z w (FS++(f++[])),rt,gh⟩ (Stm tick rt) cs us f)
  (hn:anyOwn cs=true→∀ r0,lk rt d=some r0→r0.ver<tick):
  ∃ gh' FS',HRel sz z (rtUp rt d (if anyOwn cs then some ⟨tick,tick,false,cs.map bare⟩ else none)) gh' w FS' []∧
   Keeps ⟨sz,w.heap,Inow z w (FS++(f++[])),rt,gh⟩ ⟨sz,w.heap,Inow z w (FS'++[]),rtUp rt d (if anyOwn cs then some ⟨tick,tick,false,cs.map bare⟩ else none),gh'⟩ (Stm tick rt)∧
   (∀ a b,Stm tick rt a b→Stm tick (rtUp rt d (if anyOwn cs then some ⟨tick,tick,false,cs.map bare⟩ else none)) a b)∧
   (anyOwn cs=true→Stm tick (rtUp rt d (if anyOwn cs then some ⟨tick,tick,false,cs.map bare⟩ else none)) d tick)∧
   (anyOwn cs=true→Rooted ⟨sz,w.heap,Inow z w (FS'++[]),rtUp rt d (if anyOwn cs then some ⟨tick,tick,false,cs.map bare⟩ else none),gh'⟩ d tick (cs.map bare) us):=by
 cases ha:anyOwn cs with
 | true=>
  simp only[if_true,rtUp]
  obtain⟨FS',h1,h2⟩:=HRel.lay (r1:=⟨tick,tick,false,cs.map bare⟩) (g:=⟨none,us⟩) (tick:=tick) (d:=d) r rfl rfl (hn ha) ⟨rfl,okMix_root hk⟩
  obtain⟨s1,s2⟩:=Stm_new (tick:=tick) (rt:=rt) (d:=d) (r:=⟨tick,tick,false,cs.map bare⟩) rfl
  exact⟨_,FS',h1,h2,s1,fun _=>s2,fun _=>⟨fun r q _=>by rw[lk_up_self] at q;simp only[Option.some.injEq] at q;rw[←q],by simp[gset]⟩⟩
 | false=>
  simp only[Bool.false_eq_true,if_false,rtUp]
  obtain⟨h1,h2⟩:=drop_floats r
  exact⟨gh,FS,h1,r.keeps_refl _ h2,fun a b h=>h,fun h=>by simp at h,fun h=>by simp at h⟩
theorem bare_map {cs:List T}:∀ j t,cs[j]?=some t→(cs.map bare)[0+j]?=some (bare t):=fun j t h=>by simp[h]
theorem slot_agg {sz z rt gh w FS f cs us} {tick d:Nat} (r:HRel sz z rt gh w FS (f++[])) (hk:okMix ⟨sz,w.heap,Inow z w (FS++(f++[])),rt,gh⟩ (Stm tick rt) cs us f)
  (hn:anyOwn cs=true→∀ r0,lk rt d=some r0→r0.ver<tick):Slot sz z tick d rt gh w (Inow z w (FS++(f++[]))) (rooted d tick (.agg cs)) (.agg us.toArray):=by
 obtain⟨gh',FS',h1,h2,h3,h4,h5⟩:=slot_mix (d:=d) r hk hn
 have e1:(rooted d tick (.agg cs)).root=if anyOwn cs then some ⟨tick,tick,false,cs.map bare⟩ else none:=by simp only[rooted];split<;>rfl
 have e2:(rooted d tick (.agg cs)).val=.agg (viewFrom d tick [] 0 cs):=by simp only[rooted];split<;>rfl
 refine⟨gh',FS',by rw[e1];exact h1,by rw[e1];exact h2,?_⟩
 rw[e1,e2]
 cases ha:anyOwn cs with
 | true=>
  rw[ha] at h1 h2 h3 h4 h5
  obtain⟨g1,g2⟩:=okMix_view h2 h3 (h5 rfl) 0 hk (fun _=>h4 rfl) bare_map (fun j u h=>by simpa using h)
  exact⟨⟨us,rfl,g1⟩,g2⟩
 | false=>
  rw[ha] at h1 h2 h3 h4 h5
  obtain⟨g1,g2⟩:=okMix_view0 h2 h3 (d:=d) (tick:=tick) 0 hk ha
  exact⟨⟨us,rfl,g1⟩,g2⟩
theorem slot_own {sz z rt gh w FS f e es u} {tick d:Nat} (r:HRel sz z rt gh w FS (f++[])) (hk:okV sz w.heap (Inow z w (FS++(f++[]))) (.own e es) u f)
  (hn:∀ r0,lk rt d=some r0→r0.ver<tick):Slot sz z tick d rt gh w (Inow z w (FS++(f++[]))) (rooted d tick (.own e es)) u:=by
 have hm:okMix ⟨sz,w.heap,Inow z w (FS++(f++[])),rt,gh⟩ (Stm tick rt) [.own e es] [u] f:=⟨u,[],f,[],rfl,by simp,fun _=>hk,fun h=>by simp[isOwn] at h,rfl,rfl⟩
 obtain⟨gh',FS',h1,h2,h3,h4,h5⟩:=slot_mix (d:=d) r hm (fun _=>hn)
 have ha:anyOwn [.own e es]=true:=rfl
 rw[ha] at h1 h2 h3 h4 h5
 obtain⟨g1,g2⟩:=okMix_view h2 h3 (h5 rfl) 0 hm (fun _=>h4 rfl) bare_map (fun j u h=>by simpa using h)
 obtain⟨u',us',q1,q2,q3⟩:=g1
 simp only[List.cons.injEq] at q1
 obtain⟨rfl,_⟩:=q1
 obtain⟨m1,m2⟩:=lift02 q2 (g2 _ (by simp[viewFrom]))
 exact⟨gh',FS',h1,h2,m1,m2⟩
theorem tup_flat {sz h I} {S:Nat→Nat→Prop}:∀ {ts:List T} {us f},okL sz h I ts us f→∃ vals,okL sz h I (tupCells ts) vals f∧
  ∀ {x y:Cx} {S':Nat→Nat→Prop} {d tick:Nat} (cells0:List T) (vals0:List Value) (k:Nat),x.sz=sz→x.h=h→x.I=I→Keeps x y S→(∀ a b,S a b→S' a b)→
   (anyOwn (tupCells ts)=true→S' d tick∧Rooted y d tick cells0 vals0)→
   (∀ j t,(tupCells ts)[j]?=some t→cells0[k+j]?=some (bare t))→(∀ j u,vals[j]?=some u→vals0[k+j]?=some u)→
   All2 (okX1 y) (tupView d tick k ts) us∧∀ t,t∈tupView d tick k ts→st1 S' t
 | [],us,f,hk=>by
  simp only[okL] at hk
  refine⟨[],by simp[tupCells,okL,hk.2],fun {x y S' d tick} cells0 vals0 k _ _ _ _ _ _ _ _=>⟨hk.1,fun t ht=>by simp[tupView] at ht⟩⟩
 | t::ts,us,f,hk=>by
  simp only[okL] at hk
  obtain⟨u,us',f1,f2,rfl,rfl,h1,h2⟩:=hk
  obtain⟨vals,g1,g2⟩:=tup_flat (S:=S) h2
  have main:∃ vs,okL sz h I t.cells vs f1∧∀ {x y:Cx} {S':Nat→Nat→Prop} {d tick:Nat} (cells0:List T) (vals0:List Value) (k:Nat),x.sz=sz→x.h=h→x.I=I→Keeps x y S→(∀ a b,S a b→S' a b)→
   (anyOwn t.cells=true→S' d tick∧Rooted y d tick cells0 vals0)→
   (∀ j c,t.cells[j]?=some c→cells0[k+j]?=some (bare c))→(∀ j u,vs[j]?=some u→vals0[k+j]?=some u)→
   ∃ t',(∀ ts',tupView d tick k (t::ts')=t'::tupView d tick (k+t.cells.length) ts')∧okX1 y t' u∧st1 S' t':=by
   by_cases hagg:∃ cs,t=.agg cs
   ·obtain⟨cs,rfl⟩:=hagg
    simp only[okV] at h1
    obtain⟨vs,rfl,hL⟩:=h1
    refine⟨vs,hL,fun {x y S' d tick} cells0 vals0 k e1 e2 e3 kp hS ha hc hu=>⟨.agg (viewFrom d tick [] k cs),fun ts'=>rfl,?_⟩⟩
    subst e1;subst e2;subst e3
    obtain⟨f',q1,q2⟩:=okMix_of_L (S:=S) hL
    cases hb:anyOwn cs with
    | true=>
     obtain⟨a1,a2⟩:=ha hb
     obtain⟨m1,m2⟩:=okMix_view kp hS a2 k q2 (fun _=>a1) hc hu
     exact⟨⟨vs,rfl,m1⟩,m2⟩
    | false=>
     obtain⟨m1,m2⟩:=okMix_view0 kp hS (d:=d) (tick:=tick) k q2 hb
     exact⟨⟨vs,rfl,m1⟩,m2⟩
   ·have hcells:t.cells=[t]:=by cases t<;>first | rfl | exact absurd ⟨_,rfl⟩ hagg
    have hL:okL sz h I [t] [u] f1:=okL_one.2 h1
    rw[hcells]
    refine⟨[u],hL,fun {x y S' d tick} cells0 vals0 k e1 e2 e3 kp hS ha hc hu=>⟨view1 d tick [] k t,fun ts'=>?_,?_⟩⟩
    ·cases t<;>first | rfl | exact absurd ⟨_,rfl⟩ hagg
    ·subst e1;subst e2;subst e3
     obtain⟨f',q1,q2⟩:=okMix_of_L (S:=S) hL
     have key:All2 (okX0 y) (viewFrom d tick [] k [t]) [u]∧∀ c,c∈viewFrom d tick [] k [t]→st0 S' c:=by
      cases hb:anyOwn [t] with
      | true=>
       obtain⟨a1,a2⟩:=ha hb
       exact okMix_view kp hS a2 k q2 (fun _=>a1) hc hu
      | false=>exact okMix_view0 kp hS k q2 hb
     obtain⟨⟨u',us',p1,p2,p3⟩,p4⟩:=key
     simp only[List.cons.injEq] at p1
     obtain⟨rfl,_⟩:=p1
     exact lift01 p2 (p4 _ (by simp[viewFrom]))
  obtain⟨vs,m1,m2⟩:=main
  have happ:∀ {c1 c2 u1 u2 f1 f2},okL sz h I c1 u1 f1→okL sz h I c2 u2 f2→okL sz h I (c1++c2) (u1++u2) (f1++f2):=by
   intro c1
   induction c1 with
   | nil=>intro c2 u1 u2 f1 f2 h1 h2;simp only[okL] at h1;obtain⟨rfl,rfl⟩:=h1;simpa using h2
   | cons c c1 ih=>
    intro c2 u1 u2 f1 f2 h1 h2
    simp only[okL] at h1
    obtain⟨u,us',f3,f4,rfl,rfl,h3,h4⟩:=h1
    simp only[List.cons_append,okL]
    exact⟨u,us'++u2,f3,f4++f2,rfl,by simp,h3,ih h4 h2⟩
  have hlen:vs.length=t.cells.length:=okL_length m1
  have hany:∀ {c1 c2:List T},anyOwn (c1++c2)=(anyOwn c1||anyOwn c2):=by
   intro c1
   induction c1 with
   | nil=>intro c2;rfl
   | cons c c1 ih=>intro c2;simp only[List.cons_append,anyOwn,ih,Bool.or_assoc]
  refine⟨vs++vals,happ m1 g1,fun {x y S' d tick} cells0 vals0 k e1 e2 e3 kp hS ha hc hu=>?_⟩
  obtain⟨t',p1,p2,p3⟩:=m2 cells0 vals0 k e1 e2 e3 kp hS (fun h=>ha (by simp only[tupCells,hany,h,Bool.true_or]))
   (fun j c hj=>hc j c (by
    have:j<t.cells.length:=(List.getElem?_eq_some_iff.1 hj).1
    simp only[tupCells];rw[List.getElem?_append_left this];exact hj))
   (fun j v hj=>hu j v (by
    have:j<vs.length:=(List.getElem?_eq_some_iff.1 hj).1
    rw[List.getElem?_append_left this];exact hj))
  obtain⟨p4,p5⟩:=g2 cells0 vals0 (k+t.cells.length) e1 e2 e3 kp hS (fun h=>ha (by simp only[tupCells,hany,h,Bool.or_true]))
   (fun j c hj=>by
    have:=hc (t.cells.length+j) c (by simp only[tupCells];rw[List.getElem?_append_right (by omega)];simpa using hj)
    rwa[←Nat.add_assoc] at this)
   (fun j v hj=>by
    have:=hu (vs.length+j) v (by rw[List.getElem?_append_right (by omega)];simpa using hj)
    rwa[←Nat.add_assoc,hlen] at this)
  rw[p1]
  refine⟨⟨u,us',rfl,p2,p4⟩,fun c hc=>?_⟩
  rcases List.mem_cons.1 hc with rfl | hc
  ·exact p3
  ·exact p5 c hc
theorem slot_tup {sz z rt gh w FS f ts us} {tick d:Nat} (r:HRel sz z rt gh w FS (f++[])) (hk:okL sz w.heap (Inow z w (FS++(f++[]))) ts us f)
  (hn:anyOwn (tupCells ts)=true→∀ r0,lk rt d=some r0→r0.ver<tick):Slot sz z tick d rt gh w (Inow z w (FS++(f++[]))) (rooted d tick (.tup ts)) (.tuple us.toArray):=by
 obtain⟨vals,g1,g2⟩:=tup_flat (S:=Stm tick rt) hk
 obtain⟨f',q1,q2⟩:=okMix_of_L (x:=⟨sz,w.heap,Inow z w (FS++(f++[])),rt,gh⟩) (S:=Stm tick rt) g1
 obtain⟨r',hI⟩:=fewer_floats (X':=f'++[]) r (by simpa using q1)
 have q2':=okMix_kp (y:=⟨sz,w.heap,Inow z w (FS++(f'++[])),rt,gh⟩) (r.keeps_refl _ hI) (fun _ _=>rfl) q2
 obtain⟨gh',FS',h1,h2,h3,h4,h5⟩:=slot_mix (d:=d) r' q2' hn
 have e1:(rooted d tick (.tup ts)).root=if anyOwn (tupCells ts) then some ⟨tick,tick,false,(tupCells ts).map bare⟩ else none:=by simp only[rooted];split<;>rfl
 have e2:(rooted d tick (.tup ts)).val=.tup (tupView d tick 0 ts):=by simp only[rooted];split<;>rfl
 have kp:=(r.keeps_refl (Stm tick rt) hI).trans h2 fun a b h=>h
 refine⟨gh',FS',by rw[e1];exact h1,by rw[e1];exact kp,?_⟩
 rw[e1,e2]
 obtain⟨m1,m2⟩:=g2 ((tupCells ts).map bare) vals 0 rfl rfl rfl kp h3 (fun h=>⟨h4 h,h5 h⟩) bare_map (fun j u h=>by simpa using h)
 exact⟨⟨us,rfl,m1⟩,m2⟩
theorem slot_plain {sz z rt gh w FS f t u} {tick d:Nat} (r:HRel sz z rt gh w FS (f++[])) (hk:okX0 ⟨sz,w.heap,Inow z w (FS++[]),rt,gh⟩ t u) (hs:st0 (Stm tick rt) t):
  Slot sz z tick d rt gh w (Inow z w (FS++(f++[]))) { val:=t } u:=by
 obtain⟨h1,h2⟩:=drop_floats r
 obtain⟨m1,m2⟩:=lift02 hk hs
 exact⟨gh,FS,h1,r.keeps_refl _ h2,m1,m2⟩
theorem slot_ok {sz z rt gh w FS f t u} {tick d:Nat} (r:HRel sz z rt gh w FS (f++[])) (hk:okV sz w.heap (Inow z w (FS++(f++[]))) t u f)
  (hn:(rooted d tick t).root.isSome=true→∀ r0,lk rt d=some r0→r0.ver<tick):Slot sz z tick d rt gh w (Inow z w (FS++(f++[]))) (rooted d tick t) u:=by
 have plain:okV sz w.heap (Inow z w (FS++(f++[]))) t u []→Slot sz z tick d rt gh w (Inow z w (FS++(f++[]))) { val:=t } u:=fun h=>by
  obtain⟨h1,h2⟩:=drop_floats r
  have:=okV_0 (x:=⟨sz,w.heap,Inow z w (FS++[]),rt,gh⟩) (S:=Stm tick rt) (okV_agree ⟨fun b hb=>⟨h2 b hb,rfl⟩,fun b hb=>by simp at hb⟩ h)
  exact slot_plain r this.1 this.2
 have dead:Slot sz z tick d rt gh w (Inow z w (FS++(f++[]))) { val:=.dead } u:=
  slot_plain r (by show okV sz w.heap (Inow z w (FS++[])) .dead u [];simp[okV]) trivial
 cases t with
 | own e es=>exact slot_own r hk (hn rfl)
 | agg cs=>
  simp only[okV] at hk
  obtain⟨us,rfl,hL⟩:=hk
  obtain⟨f',q1,q2⟩:=okMix_of_L (x:=⟨sz,w.heap,Inow z w (FS++(f++[])),rt,gh⟩) (S:=Stm tick rt) hL
  obtain⟨r',hI⟩:=fewer_floats (X':=f'++[]) r (by simpa using q1)
  have q2':=okMix_kp (y:=⟨sz,w.heap,Inow z w (FS++(f'++[])),rt,gh⟩) (r.keeps_refl _ hI) (fun _ _=>rfl) q2
  obtain⟨gh',FS',h1,h2,h3⟩:=slot_agg (d:=d) r' q2' (fun ha=>hn (by simp[rooted,ha]))
  exact⟨gh',FS',h1,(r.keeps_refl (Stm tick rt) hI).trans h2 fun a b h=>h,h3⟩
 | tup ts=>
  simp only[okV] at hk
  obtain⟨us,rfl,hL⟩:=hk
  exact slot_tup r hL (fun ha=>hn (by simp[rooted,ha]))
 | v x=>exact plain (by simp only[okV] at hk;simp[okV,hk.1])
 | sl e es=>
  have h0:f=[]:=by have hk2:=hk;simp only[okV] at hk2;exact hk2.1
  exact plain (by rw[h0] at hk ⊢;exact hk)
 | ipt cs=>
  have h0:f=[]:=by have hk2:=hk;simp only[okV] at hk2;exact hk2.1
  exact plain (by rw[h0] at hk ⊢;exact hk)
 | obx cs=>
  simp only[okV] at hk
  obtain⟨b,pre,vals,post,el,fz,fs',rfl,rfl,h3,h4,h5⟩:=hk
  obtain⟨FS',k1,k2⟩:=HRel.lay (tick:=tick) (d:=d) (g:=⟨some ⟨b,pre,post,el,fz⟩,vals⟩) (r1:=⟨tick,tick,true,cs⟩) r rfl rfl (hn rfl)
   ⟨rfl,fs',(pre++vals++post).toArray,rfl,h3,by simpa using h4,by simp,h5⟩
  refine⟨_,FS',k1,k2,⟨⟨_,rfl⟩,?_⟩,(Stm_new (tick:=tick) (r:=⟨tick,tick,true,cs⟩) rfl).2⟩
  intro r _ _
  exact⟨⟨b,pre,post,el,fz⟩,by simp[gset],by simp⟩
 | _=>exact dead
theorem rtOf_eq {tick rt d} {e:Eff}:rtOf tick rt d e=rtUp (setCells tick rt e.sets) d e.root:=by
 unfold rtOf rtUp;cases e.root<;>rfl
theorem setCell_ver {tick rt s d r} (h:lk (setCell tick rt s) d=some r):∃ r0,lk rt d=some r0∧r0.ver=r.ver:=by
 unfold setCell at h
 cases hs:lk rt s.d with
 | none=>rw[hs] at h;exact⟨r,h,rfl⟩
 | some r1=>
  rw[hs] at h
  by_cases hd:d=s.d
  ·subst hd
   rw[lk_up_self] at h
   simp only[Option.some.injEq] at h;subst h
   exact⟨r1,hs,rfl⟩
  ·rw[lk_up_ne _ _ _ _ hd] at h
   exact⟨r,h,rfl⟩
theorem setCells_ver {tick}:∀ {ss rt d r},lk (setCells tick rt ss) d=some r→∃ r0,lk rt d=some r0∧r0.ver=r.ver
 | [],rt,d,r,h=>⟨r,h,rfl⟩
 | s::ss,rt,d,r,h=>by
  simp only[setCells] at h
  obtain⟨r0,h1,h2⟩:=setCells_ver h
  obtain⟨r1,h3,h4⟩:=setCell_ver h1
  exact⟨r1,h3,h4.trans h2⟩
theorem newOk_lt {tick rt d} (h:newOk tick rt d=true) {ss r0} (h0:lk (setCells tick rt ss) d=some r0):r0.ver<tick:=by
 obtain⟨r1,h1,h2⟩:=setCells_ver h0
 unfold newOk at h
 rw[h1] at h
 simp only[decide_eq_true_eq] at h
 omega
section laid
variable {E:Env} {z:Zn} {n tick:Nat} {fr:List (Nat×T)} {rt:List (Nat×Root)} {gh:Nat→G} {w:World} {FS:List Nat} {a:Act}
variable {call:FuncId→List Arg→Option Res} {me:FuncId} {d:Nat} {ty0:TypeId} {e:Eff} {o:Oper}
theorem with_sets {e:Eff} {ss:List CSet}:(e.with ss).val=e.val∧(e.with ss).root=e.root∧(e.with ss).sets=e.sets++ss:=⟨rfl,rfl,rfl⟩
theorem rooted_sets {d tick t}:(rooted d tick t).sets=[]:=by
 cases t<;>simp only[rooted]<;>first | rfl | (split<;>rfl)
theorem says_slot {s:Sem Next} {u:Value} {w1:World} {gh1:Nat→G} {I1:Nat→Prop} {ss:List CSet} {e0:Eff} (hs:s.run E.P w=.ok (.value u) w1) (he:e.sets=ss) (hv:e.val=e0.val) (hr:e.root=e0.root)
  (kp:Keeps ⟨szOf E,w.heap,Inow z w (FS++[]),rt,gh⟩ ⟨szOf E,w1.heap,I1,setCells tick rt ss,gh1⟩ (Stm tick rt))
  (sl:Slot (szOf E) z tick d (setCells tick rt ss) gh1 w1 I1 e0 u):Says E z tick rt gh w FS d e s:=by
 unfold Says
 rw[hs]
 obtain⟨gh',FS',h1,h2,h3,h4⟩:=sl
 show Done _ _ _ _ _ _ _ _ _ _ _
 rw[rtOf_eq,he,hv,hr]
 exact⟨gh',FS',h1,kp.trans h2 fun a b h=>Stm_sets a b h,h3,h4⟩
theorem alloc_lay {zz rt1 gh1 FS1 f us cs} {sz:TypeId→Nat} {w:World} {el:TypeId} {X:List Nat} (r:HRel sz zz rt1 gh1 w FS1 (f++X)) (hk:okL sz w.heap (Inow zz w (FS1++(f++X))) cs us f)
  (hold:∀ r0,lk rt1 d=some r0→r0.ver<tick):
  ∃ gh' FS',HRel sz zz (up rt1 d ⟨tick,tick,true,cs⟩) gh' (w.alloc (.cells us.toArray el (0,0))) FS' X∧
   Keeps ⟨sz,w.heap,Inow zz w (FS1++(f++X)),rt1,gh1⟩ ⟨sz,(w.alloc (.cells us.toArray el (0,0))).heap,Inow zz (w.alloc (.cells us.toArray el (0,0))) (FS'++X),up rt1 d ⟨tick,tick,true,cs⟩,gh'⟩ (Stm tick rt1)∧
   (gh' d).blk=some ⟨w.heap.size,[],[],el,(0,0)⟩:=by
 obtain⟨h1,h2,h3,h4⟩:=r.alloc (.cells us.toArray el (0,0))
 have hlt:∀ b,b∈f→b<w.heap.size:=fun b hb=>r.lt b (by simp[hb])
 have hk':=okL_agree (h':=(w.alloc (.cells us.toArray el (0,0))).heap) (I':=Inow zz (w.alloc (.cells us.toArray el (0,0))) (FS1++(w.heap.size::(f++X))))
  ⟨fun b hb=>h2.old b hb,fun b hb=>h4 b (hlt b hb)⟩ hk
 have h1':HRel sz zz rt1 gh1 (w.alloc (.cells us.toArray el (0,0))) FS1 ((w.heap.size::f)++X):=h1
 obtain⟨FS',k1,k2⟩:=HRel.lay (tick:=tick) (d:=d) (g:=⟨some ⟨w.heap.size,[],[],el,(0,0)⟩,us⟩) (r1:=⟨tick,tick,true,cs⟩) h1' rfl rfl hold
  ⟨rfl,f,us.toArray,rfl,h3,fun i _ h=>by simp only at h;omega,by simp,hk'⟩
 exact⟨_,FS',k1,(h2.mono (S':=Stm tick rt1) fun _ _ _=>trivial).trans k2 fun _ _ h=>h,by simp[gset]⟩
theorem slot_var {sz zz rt1 gh1 FS1 f us cs} {w:World} {el:TypeId} (r:HRel sz zz rt1 gh1 w FS1 (f++[])) (hk:okL sz w.heap (Inow zz w (FS1++(f++[]))) cs us f)
  (hold:∀ r0,lk rt1 d=some r0→r0.ver<tick):
  ∃ gh' FS',HRel sz zz (up rt1 d ⟨tick,tick,true,cs⟩) gh' (w.alloc (.cells us.toArray el (0,0))) FS' []∧
   Keeps ⟨sz,w.heap,Inow zz w (FS1++(f++[])),rt1,gh1⟩ ⟨sz,(w.alloc (.cells us.toArray el (0,0))).heap,Inow zz (w.alloc (.cells us.toArray el (0,0))) (FS'++[]),up rt1 d ⟨tick,tick,true,cs⟩,gh'⟩ (Stm tick rt1)∧
   okX ⟨sz,(w.alloc (.cells us.toArray el (0,0))).heap,Inow zz (w.alloc (.cells us.toArray el (0,0))) (FS'++[]),up rt1 d ⟨tick,tick,true,cs⟩,gh'⟩ (.ptr d tick [] 0) (.pointer (some ⟨w.heap.size,0,none⟩))∧
   stX (Stm tick (up rt1 d ⟨tick,tick,true,cs⟩)) (.ptr d tick [] 0):=by
 obtain⟨gh',FS',h1,h2,h3⟩:=alloc_lay (el:=el) r hk hold
 refine⟨gh',FS',h1,h2,⟨⟨_,rfl⟩,?_⟩,(Stm_new (tick:=tick) (r:=⟨tick,tick,true,cs⟩) rfl).2⟩
 intro r _ _
 exact⟨⟨w.heap.size,[],[],el,(0,0)⟩,h3,rfl⟩
theorem run_newVar (P:Program) (w:World) (t:TypeId) (v:Value):(newVar t v).run P w=.ok ⟨w.heap.size,0,none⟩ (w.alloc (.cells v.cells t (0,0))):=rfl
theorem floats0 {sz z rt gh w FS} (r:HRel sz z rt gh w FS []):HRel sz z rt gh w FS ([]++[]):=r
theorem op_alloc {ty:TypeId} (ht:TiOk E) (h:Here E z n tick fr rt gh w FS a) (ho:o.op=.alloc ty) (hd:EffOk tick rt d e)
  (he:(evOp E call me (St.val fr) tick d ty0 (.alloc ty)).run rt=some e):
  Says E z tick rt gh w FS d e (execOp a.eval o):=by
 simp only[evOp] at he
 obtain⟨i,h1,he1⟩:=run_bind he
 simp only[Rd.run,Option.some.injEq] at he1
 obtain⟨zv,q1,q2,q3,q4⟩:=(ht _ _ (run_of h1)).zero
 have hnew:=hd.new _ (by rw[←he1])
 obtain⟨gh',FS',k1,k2,k3,k4⟩:=slot_var (d:=d) (tick:=tick) (el:=ty) (f:=[]) (floats0 h.heap) (q3 _ _) (fun r0 h0=>newOk_lt (ss:=[]) hnew h0)
 have hrun:(execOp a.eval o).run E.P w=.ok (.value (.pointer (some ⟨w.heap.size,0,none⟩))) (w.alloc (.cells zv.cells.toList.toArray ty (0,0))):=by
  simp only[execOp,ho,Instr.alloc,Sem.run_bind,q1,Result.andThen_ok,run_newVar,Array.toArray_toList]
  rfl
 unfold Says
 rw[hrun]
 subst he1
 exact⟨gh',FS',k1,k2,k3,k4⟩
theorem okX0_dead {x:Cx} {u:Value}:okX0 x .dead u:=by show okV x.sz x.h x.I .dead u [];simp[okV]
theorem part_cells {x:Cx} {S:Nat→Nat→Prop} {zero:List T} {t:T} {u:Value} (hk:okX x t u) (hs:stX S t) (hdead:t≠.dead):
  All2 (okX0 x) (partCells zero t) u.cells.toList∧∀ c,c∈partCells zero t→st0 S c:=by
 have one:∀ c,okX0 x c u→st0 S c→u.cells.toList=[u]→All2 (okX0 x) [c] u.cells.toList∧∀ c',c'∈[c]→st0 S c':=fun c h1 h2 h3=>by
  rw[h3]
  exact⟨⟨u,[],rfl,h1,rfl⟩,fun c' hc=>by simp only[List.mem_singleton] at hc;rw[hc];exact h2⟩
 unfold partCells
 split
 ·have hu:=okX_v.1 hk
  subst hu
  split
  ·exact one _ (by show okV x.sz x.h x.I (.own _ []) _ [];simp[okV]) trivial rfl
  ·exact one _ (by show okV x.sz x.h x.I (.v _) _ [];simp[okV]) trivial rfl
 ·rename_i xs
  have hu:=okX_v.1 hk
  subst hu
  show All2 (okX0 x) (xs.toList.map .v) xs.toList∧_
  refine⟨?_,fun c hc=>by obtain⟨v,_,rfl⟩:=List.mem_map.1 hc;trivial⟩
  generalize xs.toList=l
  induction l with
  | nil=>rfl
  | cons v l ih=>exact⟨v,l,rfl,by show okV x.sz x.h x.I (.v v) v [];simp[okV],ih⟩
 ·obtain⟨us,rfl,h2⟩:=hk
  exact⟨h2,hs⟩
 ·obtain⟨us,rfl,h2⟩:=hk
  exact one _ okX0_dead trivial rfl
 ·obtain⟨us,rfl,h2⟩:=hk
  exact one _ okX0_dead trivial rfl
 ·rename_i h1 h2 h3 h4 h5
  have hx:okX0 x t u∧st0 S t∧u.cells.toList=[u]:=by
   cases t with
   | v v=>
    have hu:=okX_v.1 hk
    subst hu
    refine⟨by show okV x.sz x.h x.I (.v u) u [];simp[okV],trivial,?_⟩
    cases u<;>first | rfl | exact absurd rfl (h2 _)
   | agg cs=>exact absurd rfl (h3 _)
   | tup cs=>exact absurd rfl (h4 _)
   | clo f cs=>
    cases cs with
    | nil=>
     obtain⟨us,rfl,h2⟩:=hk
     simp only[All2] at h2;subst h2
     exact⟨by show okV x.sz x.h x.I (.clo f []) _ [];simp[okV,okL],trivial,rfl⟩
    | cons c cs=>exact absurd rfl (h5 _ _ _)
   | sl e es=>
    refine⟨hk,hs,?_⟩
    have k1':okV x.sz x.h x.I (.sl e es) u []:=hk
    simp only[okV,true_and] at k1'
    obtain⟨ad,cap,rfl,_⟩:=k1'
    rfl
   | own e es=>
    refine⟨hk,hs,?_⟩
    have k1':okV x.sz x.h x.I (.own e es) u []:=hk
    simp only[okV] at k1'
    rcases k1' with⟨_,_,ad,rfl⟩ | ⟨b,o,cap,arr,el,fz,fs',rfl,_⟩<;>rfl
   | ipt cs=>
    refine⟨hk,hs,?_⟩
    have k1':okV x.sz x.h x.I (.ipt cs) u []:=hk
    simp only[okV,true_and] at k1'
    obtain⟨b,o,arr,el,fz,rfl,_⟩:=k1'
    rfl
   | ref d v p c n=>obtain⟨⟨ad,cap,rfl⟩,_⟩:=id hk;exact⟨hk,hs,rfl⟩
   | ptr d v p c=>obtain⟨⟨ad,rfl⟩,_⟩:=id hk;exact⟨hk,hs,rfl⟩
   | bx d v p c=>obtain⟨b,arr,el,fz,u',rfl,_⟩:=id hk;exact⟨hk,hs,rfl⟩
   | dead=>exact absurd rfl hdead
   | hdr n=>
    refine⟨hk,hs,?_⟩
    have k1':okV x.sz x.h x.I (.hdr n) u []:=hk
    simp only[okV,true_and] at k1'
    obtain⟨ad,cap,rfl⟩:=k1'
    rfl
   | obx cs=>
    have k1':okV x.sz x.h x.I (.obx cs) u []:=hk
    simp[okV] at k1'
  exact one t hx.1 hx.2.1 hx.2.2
theorem inline_dead {tk:Nat→Bool} {rt:List (Nat×Root)} {zero:List T} {x:List T×List CSet} (h:(inlineL tk (partCells zero .dead)).run rt=some x):False:=by
 simp only[partCells,inlineL,inline1] at h
 obtain⟨b,h1,_⟩:=run_bind h
 simp[Rd.run] at h1
theorem inlineR_dead {tk:Nat→Bool} {rt:List (Nat×Root)} {zero:List T} {x:List T×List CSet} (h:(inlineR tk (partCells zero .dead)).run rt=some x):False:=
 inline_dead (tk:=tk) (rt:=rt) (zero:=zero) (x:=x) (by simpa[inlineR,partCells,deepOf,deep1] using h)
theorem inline_partR {tk:Nat→Bool} {zero:List T} {t:T} {u:Value} {ts:List T} {ss:List CSet} (h:Here E z n tick fr rt gh w FS a)
  (k1:okX ⟨szOf E,w.heap,Inow z w (FS++[]),rt,gh⟩ t u) (k2:stX (Stm tick rt) t) (he:(inlineR tk (partCells zero t)).run rt=some (ts,ss)) (hap:setsApart ss=true):
  ∃ FS' f,HRel (szOf E) z (setCells tick rt ss) gh w FS' (f++[])∧
   Keeps ⟨szOf E,w.heap,Inow z w (FS++[]),rt,gh⟩ ⟨szOf E,w.heap,Inow z w (FS'++(f++[])),setCells tick rt ss,gh⟩ (Stm tick rt)∧
   okL (szOf E) w.heap (Inow z w (FS'++(f++[]))) ts u.cells.toList f∧(∀ v,v∈u.cells.toList→oneVal v=true):=by
 obtain⟨p1,p2⟩:=part_cells (zero:=zero) k1 k2 (fun hd=>inlineR_dead (hd▸he))
 obtain⟨FS',f,L,g1,g2⟩:=inlineR_ok (tick:=tick) h.heap he hap p1 p2
 exact⟨FS',f,L.rel,L.keeps,g1,g2⟩
theorem op_box {ty:TypeId} {x:Operand} (h:Here E z n tick fr rt gh w FS a) (ho:o.op=.box ty x) (hd:EffOk tick rt d e)
  (he:(evOp E call me (St.val fr) tick d ty0 (.box ty x)).run rt=some e):
  Says E z tick rt gh w FS d e (execOp a.eval o):=by
 simp only[evOp] at he
 obtain⟨i,h1,he1⟩:=run_bind he
 obtain⟨t,h2,he2⟩:=run_bind he1
 obtain⟨k1,k2⟩:=h.frame.val (run_of h2)
 split at he2
 ·rename_i d0 ver path off
  simp only[Rd.run,Option.some.injEq] at he2
  subst he2
  obtain⟨ad,hu⟩:=k1.1
  have hrun:(execOp a.eval o).run E.P w=.ok (.value (.pointer (some ⟨w.heap.size,0,none⟩))) (w.alloc (.cells (a.eval x).cells ty (0,0))):=by
   simp only[execOp,ho,Instr.box,Sem.run_bind,run_newVar,Result.andThen_ok]
   rfl
  obtain⟨q1,q2,q3,q4⟩:=h.heap.alloc (.cells (a.eval x).cells ty (0,0))
  have hlow:=q1.same (X':=[]) (fun x=>by simp)
  have hk2:=q1.keeps_refl (I':=Inow z (w.alloc (.cells (a.eval x).cells ty (0,0))) (FS++[])) (Stm tick rt) (fun b hb=>q1.imm_grow (Nat.le_refl _) (fun b hb=>.inl (by simp at hb ⊢;exact .inl hb)) hb)
  have hkk:=(q2.mono (S':=Stm tick rt) fun _ _ _=>trivial).trans hk2 fun _ _ h=>h
  have hkx:=hkk.x (t:=.ptr d0 ver path off) k2 k1
  unfold Says
  rw[hrun]
  refine⟨gh,FS,hlow,hkk,⟨w.heap.size,_,ty,(0,0),a.eval x,rfl,.inr ⟨.inr h.heap.fr.size,by show _<(w.heap.push _).size;simp,?_⟩,q3,?_,⟨ad,hu⟩,hkx.2⟩,k2⟩
  ·intro hm
   have:=h.heap.lt w.heap.size (by simpa using hm)
   omega
  ·rw[hu];rfl
 obtain⟨⟨ts,ss⟩,h3,he3⟩:=run_bind he2
 split at he3
 ·simp only[Rd.run,Option.some.injEq] at he3
  subst he3
  obtain⟨FS',f,g1,g2,g3,g4⟩:=inline_partR h k1 k2 h3 hd.apart
  have hnew:=hd.new _ rfl
  obtain⟨gh',FS2,q1,q2,q3,q4⟩:=slot_var (d:=d) (tick:=tick) (el:=ty) g1 g3 (fun r0 h0=>newOk_lt hnew h0)
  rw[Array.toArray_toList] at q1 q2 q3
  have hrun:(execOp a.eval o).run E.P w=.ok (.value (.pointer (some ⟨w.heap.size,0,none⟩))) (w.alloc (.cells (a.eval x).cells ty (0,0))):=by
   simp only[execOp,ho,Instr.box,Sem.run_bind,run_newVar,Result.andThen_ok]
   rfl
  unfold Says
  rw[hrun]
  exact⟨gh',FS2,q1,g2.trans q2 fun a b h=>Stm_sets a b h,q3,q4⟩
 ·simp[Rd.run] at he3
theorem slot_slice {rt1 gh1 FS1 f es} {w:World} {el e':TypeId} {arr:Array Value} {cap:Nat} (r:HRel (szOf E) z rt1 gh1 w FS1 (f++[])) (hk:okEs (szOf E) w.heap (Inow z w (FS1++(f++[]))) (szOf E e') es arr.toList f)
  (hcap:es.length≤cap) (hfit:cap*szOf E e'≤arr.size) (hold:∀ r0,lk rt1 d=some r0→r0.ver<tick) {fz:Nat×Nat} (hfz:fzOk (szOf E e') fz arr.size):
  ∃ gh' FS',HRel (szOf E) z (rtUp rt1 d (rooted d tick (.own e' es)).root) gh' (w.alloc (.cells arr el fz)) FS' []∧
   Keeps ⟨szOf E,w.heap,Inow z w (FS1++(f++[])),rt1,gh1⟩ ⟨szOf E,(w.alloc (.cells arr el fz)).heap,Inow z (w.alloc (.cells arr el fz)) (FS'++[]),rtUp rt1 d (rooted d tick (.own e' es)).root,gh'⟩ (Stm tick rt1)∧
   okX ⟨szOf E,(w.alloc (.cells arr el fz)).heap,Inow z (w.alloc (.cells arr el fz)) (FS'++[]),rtUp rt1 d (rooted d tick (.own e' es)).root,gh'⟩ (rooted d tick (.own e' es)).val (.slice (some ⟨w.heap.size,0,none⟩) es.length cap)∧
   stX (Stm tick (rtUp rt1 d (rooted d tick (.own e' es)).root)) (rooted d tick (.own e' es)).val:=by
 obtain⟨h1,h2,h3,h4⟩:=r.alloc (.cells arr el fz)
 have hlt:∀ b,b∈f→b<w.heap.size:=fun b hb=>r.lt b (by simp[hb])
 have hk':=okEs_agree (h':=(w.alloc (.cells arr el fz)).heap) (I':=Inow z (w.alloc (.cells arr el fz)) (FS1++(w.heap.size::(f++[]))))
  ⟨fun b hb=>h2.old b hb,fun b hb=>h4 b (hlt b hb)⟩ hk
 have h1':HRel (szOf E) z rt1 gh1 (w.alloc (.cells arr el fz)) FS1 ((w.heap.size::f)++[]):=h1
 have hv:okV (szOf E) (w.alloc (.cells arr el fz)).heap (Inow z (w.alloc (.cells arr el fz)) (FS1++((w.heap.size::f)++[]))) (.own e' es) (.slice (some ⟨w.heap.size,0,none⟩) es.length cap) (w.heap.size::f):=by
  simp only[okV]
  exact .inr ⟨w.heap.size,0,cap,arr,el,fz,f,rfl,hcap,h3,hfz,by omega,rfl,by simpa using hk'⟩
 obtain⟨gh',FS',k1,k2,k3,k4⟩:=slot_own (d:=d) (tick:=tick) h1' hv hold
 exact⟨gh',FS',k1,(h2.mono (S':=Stm tick rt1) fun _ _ _=>trivial).trans k2 fun _ _ h=>h,k3,k4⟩
theorem HRel.drew {sz z rt gh w FS X} (r:HRel sz z rt gh w FS X):HRel sz z rt gh w.drew FS X:=
 ⟨r.srt,r.roots,r.uniq,r.lt,r.zone,⟨r.fr.os,r.fr.output,r.fr.tape,r.fr.size,r.fr.block⟩⟩
end laid
theorem okEs_le {sz h I} {s:Nat}:∀ {es:List (List T)} {l f},okEs sz h I s es l f→es.length*s≤l.length
 | [],l,f,_=>by simp
 | c::es,l,f,hk=>by
  simp only[okEs] at hk
  obtain⟨f1,f2,h0,_,h1,h2⟩:=hk
  have q1:=okL_length h1
  have q2:=okEs_le h2
  rw[List.length_take] at q1
  rw[List.length_drop] at q2
  rw[List.length_cons,Nat.succ_mul]
  omega
theorem okEs_ext {sz h I} {s:Nat}:∀ {es:List (List T)} {l l' f},okEs sz h I s es l f→l'.take (es.length*s)=l.take (es.length*s)→okEs sz h I s es l' f
 | [],l,l',f,hk,_=>by simpa[okEs] using hk
 | c::es,l,l',f,hk,he=>by
  simp only[okEs] at hk ⊢
  obtain⟨f1,f2,h0,hf,h1,h2⟩:=hk
  rw[List.length_cons,Nat.succ_mul] at he
  have e1:l'.take s=l.take s:=by
   have:=congrArg (List.take s) he
   rwa[List.take_take,List.take_take,Nat.min_eq_left (by omega)] at this
  have e2:(l'.drop s).take (es.length*s)=(l.drop s).take (es.length*s):=by
   have:=congrArg (List.drop s) he
   rwa[List.drop_take,List.drop_take,Nat.add_sub_cancel] at this
  exact⟨f1,f2,h0,hf,by rw[e1];exact h1,okEs_ext h2 e2⟩
theorem okEs_exact {sz h I} {s:Nat} {es:List (List T)} {l f} (hk:okEs sz h I s es l f):okEs sz h I s es (l.take (es.length*s)) f:=
 okEs_ext hk (by rw[List.take_take,Nat.min_self])
theorem okEs_append {sz h I} {s:Nat}:∀ {e1 e2:List (List T)} {l1 l2 f1 f2},okEs sz h I s e1 l1 f1→l1.length=e1.length*s→okEs sz h I s e2 l2 f2→okEs sz h I s (e1++e2) (l1++l2) (f1++f2)
 | [],e2,l1,l2,f1,f2,h1,hl,h2=>by
  simp only[List.length_nil,Nat.zero_mul,List.length_eq_zero_iff] at hl
  simp only[okEs] at h1
  subst hl;subst h1
  simpa using h2
 | c::e1,e2,l1,l2,f1,f2,h1,hl,h2=>by
  simp only[okEs] at h1
  obtain⟨g1,g2,h0,rfl,h3,h4⟩:=h1
  rw[List.length_cons,Nat.succ_mul] at hl
  simp only[List.cons_append,okEs]
  refine⟨g1,g2++f2,h0,by simp,?_,?_⟩
  ·rw[List.take_append_of_le_length (by omega)];exact h3
  ·rw[List.drop_append_of_le_length (by omega)]
   exact okEs_append h4 (by rw[List.length_drop];omega) h2
theorem HRel.float {sz z rt gh w FS X} {b:Nat} {w':World} (r:HRel sz z rt gh w FS X) (hb:b∈X) (hos:w'.os=w.os) (hou:w'.output=w.output) (hta:w'.tape=w.tape) (hsz:w'.heap.size=w.heap.size)
  (hw:∀ x,x≠b→w'.heap[x]?=w.heap[x]?):HRel sz z rt gh w' FS X∧Keeps ⟨sz,w.heap,Inow z w (FS++X),rt,gh⟩ ⟨sz,w'.heap,Inow z w' (FS++X),rt,gh⟩ (fun _ _=>True):=by
 have hnb:∀ x,Inow z w (FS++X) x→x≠b:=fun x hx he=>by subst he;exact (r.imm hx).2 (by simp[hb])
 have hI:∀ x,Inow z w (FS++X) x→Inow z w' (FS++X) x:=fun x hx=>r.imm_grow (by omega) (fun b hb=>.inl hb) hx
 have hF:∀ x,x∈FS→x≠b:=fun x hx he=>by
  subst he
  have h1:=List.count_pos_iff.2 hx
  have h2:=List.count_pos_iff.2 hb
  have:=r.uniq x
  simp only[List.count_append] at this
  omega
 have hag:∀ x,Inow z w (FS++X) x→Inow z w' (FS++X) x∧w'.heap[x]?=w.heap[x]?:=fun x hx=>⟨hI x hx,hw x (hnb x hx)⟩
 refine⟨⟨r.srt,okRts_agree ⟨hag,fun x hx=>hw x (hF x hx)⟩ r.roots,r.uniq,fun x hx=>by rw[hsz];exact r.lt x hx,r.zone,r.fr.step r.zone hos hou hta (by omega) fun x _ hx=>hw x fun he=>hx (by subst he;simp[hb])⟩,
  ⟨rfl,hag,fun d s r' _ h1 h2=>⟨r',h1,h2,rfl,skL_self r.roots (fun x hx=>hw x (hF x hx)) h1⟩,fun d s r' _ h1 h2=>⟨r',h1,h2,rfl⟩⟩⟩
section laid
variable {E:Env} {z:Zn} {n tick:Nat} {fr:List (Nat×T)} {rt:List (Nat×Root)} {gh:Nat→G} {w:World} {FS:List Nat} {a:Act}
variable {call:FuncId→List Arg→Option Res} {me:FuncId} {d:Nat} {ty0:TypeId} {e:Eff} {o:Oper}
theorem op_assign {x:Operand} (h:Here E z n tick fr rt gh w FS a) (ho:o.op=.assign x) (hd:EffOk tick rt d e)
  (he:(evOp E call me (St.val fr) tick d ty0 (.assign x)).run rt=some e):
  Says E z tick rt gh w FS d e (execOp a.eval o):=by
 simp only[evOp] at he
 obtain⟨t,h1,he1⟩:=run_bind he
 clear he
 have hx:=run_of h1
 clear h1
 obtain⟨k1,k2⟩:=h.frame.val hx
 have quiet:e={ val:=t }→Says E z tick rt gh w FS d e (execOp a.eval o):=fun hq=>by
  subst hq
  exact says_quiet h (by simp only[execOp,ho];rfl) k1 k2
 split at he1
 ·rename_i s s' ver nn
  split at he1
  ·obtain⟨r0,g1,g2,g3⟩:=run_root he1
   split at g3
   ·simp only[Rd.run,Option.some.injEq] at g3
    exact quiet g3.symm
   ·obtain⟨⟨⟨e',es⟩,sc⟩,g4,g5⟩:=run_bind g3
    rename_i hss _
    subst hss
    simp only[Rd.run,Option.some.injEq] at g5
    subst g5
    obtain⟨⟨ad,cap,hu⟩,k3⟩:=k1
    obtain⟨q1,q2,q3,FS',f,q4,q5,q6⟩:=h.heap.take (tick:=tick) k3 g4
    refine says_slot (ss:=[sc]) (e0:=rooted d tick (.own e' es)) (u:=a.eval (.tmp s)) (w1:=w) (gh1:=gh) ?_ ?_ rfl rfl q6 (slot_own q5 ?_ ?_)
    ·simp only[execOp,ho];rfl
    ·rw[with_sets.2.2,rooted_sets];rfl
    ·exact okV_agree ⟨fun b hb=>q6.old b hb,fun b _=>rfl⟩ q4
    ·intro r1 h1
     exact newOk_lt (ss:=[sc]) (hd.new ⟨tick,tick,false,[.own e' es]⟩ (by rw[with_sets.2.1];rfl)) h1
  ·simp only[Rd.run,Option.some.injEq] at he1
   exact quiet he1.symm
 ·simp only[Rd.run,Option.some.injEq] at he1
  exact quiet he1.symm
end laid
section runs
variable {P:Program} {w:World}
theorem run_append_fits (t0 t1 ty e:TypeId) (d1:TypeDesc) (i:TypeInfo) (tys:Array TypeId) (h0:tys[0]?=some t0) (h1:tys[1]?=some t1) (ht:P.underlying t0=some (.slice e)) (hd:P.underlying t1=some d1)
  (hint:∀ k,d1≠.int k) (hi:P.info? e=some i) (base:Option Addr) (sLen sCap nn:Nat) (x:Value) (news:Array Value) (hx:(Builtin.lenOf x).run P w=.ok nn w)
  (hn:(Builtin.firstCells i.size nn x).run P w=.ok news w) (hfit:sLen+nn≤sCap) (w':World)
  (hst:(match base with | some a=>storeCells (a.add (sLen*i.size)) news.toList | none=>pure ()).run P w=.ok () w'):
  (Builtin.append_ tys ty #[.slice base sLen sCap,x]).run P w=.ok (.slice base (sLen+nn) sCap) w':=by
 unfold Builtin.append_
 simp only[h0,h1,List.getElem?_toArray,List.getElem?_cons_zero,List.getElem?_cons_succ,Sem.run_bind,run_underlying ht,Result.andThen_ok,sizeOf,run_typeInfo hi,run_underlying hd,Sem.run_pure]
 cases base with
 | none=>
  simp only[Sem.run_pure,Result.ok.injEq,true_and] at hst
  subst hst
  cases d1<;>first
   | exact absurd rfl (hint _)
   | (simp[hx,hfit,hn])
 | some ad=>
  cases d1<;>first
   | exact absurd rfl (hint _)
   | (simp[hx,hfit,hn,hst])
theorem run_append_grows (t0 t1 ty e:TypeId) (d1:TypeDesc) (i:TypeInfo) (z:Value) (tys:Array TypeId) (h0:tys[0]?=some t0) (h1:tys[1]?=some t1) (ht:P.underlying t0=some (.slice e)) (hd:P.underlying t1=some d1)
  (hint:∀ k,d1≠.int k) (hi:P.info? e=some i) (hz:i.zero=some z) (base:Option Addr) (sLen sCap nn:Nat) (x:Value) (olds news:Array Value) (hx:(Builtin.lenOf x).run P w=.ok nn w)
  (ho:(Builtin.firstCells i.size sLen (.slice base sLen sCap)).run P w.drew=.ok olds w.drew)
  (hn:(Builtin.firstCells i.size nn x).run P w.drew=.ok news w.drew) (hfit:sCap<sLen+nn) (h63:((sLen+nn:Nat):Int)≤9223372036854775807) (h48:Builtin.nextslicecap (sLen+nn) sCap*i.bytes≤281474976710656):
  (Builtin.append_ tys ty #[.slice base sLen sCap,x]).run P w=.ok (.slice (some ⟨w.heap.size,0,none⟩) (sLen+nn) (grownCap w (sLen+nn) sCap e))
   (w.drew.alloc (.cells (olds++news++Builtin.zeroCells z.cells (grownCap w (sLen+nn) sCap e - (sLen+nn))) e (0,0))):=by
 have hnot:¬ (sLen+nn≤sCap):=by omega
 have h63':¬ (9223372036854775807<((sLen:Int)+(nn:Int))):=by omega
 have h48':¬ (281474976710656<Builtin.nextslicecap (sLen+nn) sCap*i.bytes):=by omega
 unfold Builtin.append_
 simp only[h0,h1,List.getElem?_toArray,List.getElem?_cons_zero,List.getElem?_cons_succ,Sem.run_bind,run_underlying ht,Result.andThen_ok,sizeOf,run_typeInfo hi,run_underlying hd,Sem.run_pure]
 cases d1<;>first
  | exact absurd rfl (hint _)
  | (simp[hx,hnot,h63',h48',typeInfo,zeroValue,hi,hz,Question.forced,ho,hn,newRow,grownCap])
end runs
section src
variable {E:Env} {z:Zn} {w:World}
structure Cells (P:Program) (w:World) (size:Nat) (u:Value) (n:Nat) (news:List Value):Prop where
 len:news.length=n*size
 lenOf:∀ w',(Builtin.lenOf u).run P w'=.ok n w'
 first:∀ w':World,w'.heap=w.heap→(Builtin.firstCells size n u).run P w'=.ok news.toArray w'
theorem cells_zero {P:Program} {size n cap:Nat} {ad:Option Addr} (h0:n*size=0):Cells P w size (.slice ad n cap) n []:=by
 refine⟨by simp[h0],fun w'=>rfl,fun w' _=>?_⟩
 cases ad with
 | none=>rfl
 | some ad=>simp only[Builtin.firstCells,h0];rfl
theorem cells_row {P:Program} {size n cap b o:Nat} {arr:Array Value} {el:TypeId} {fz:Nat×Nat} (hb:w.heap[b]?=some (.cells arr el fz)) (hfit:o+n*size≤arr.size):
  Cells P w size (.slice (some ⟨b,o,none⟩) n cap) n ((arr.toList.drop o).take (n*size)):=by
 refine⟨by rw[List.length_take,List.length_drop,Array.length_toList];omega,fun w'=>rfl,fun w' hw=>?_⟩
 simp only[Builtin.firstCells]
 exact run_loadCells_ok (by rw[hw];exact hb) hfit
theorem cells_le {P:Program} {size n cap b o s:Nat} {arr:Array Value} {el:TypeId} {fz:Nat×Nat} (hb:w.heap[b]?=some (.cells arr el fz)) {sz h I} {es:List (List T)} {f} (hk:okEs sz h I s es (arr.toList.drop o) f) (hs:s=size) (hn:es.length=n):
  ∃ news,Cells P w size (.slice (some ⟨b,o,none⟩) n cap) n news∧okEs sz h I s es news f:=by
 subst hs;subst hn
 have hle:=okEs_le hk
 rw[List.length_drop] at hle
 have hal:arr.toList.length=arr.size:=Array.length_toList
 rcases Nat.eq_zero_or_pos (es.length*s) with h0 | hp
 ·exact⟨[],cells_zero h0,okEs_ext hk (by rw[h0];simp)⟩
 ·exact⟨_,cells_row hb (by omega),okEs_exact hk⟩
theorem okL_flat {sz h I}:∀ {cs us f},okL sz h I cs us f→cs.all flat1=true→okL sz h I cs us []∧f=[]
 | [],us,f,hk,_=>by simp only[okL] at hk ⊢;exact⟨⟨hk.1,trivial⟩,hk.2⟩
 | c::cs,us,f,hk,ha=>by
  simp only[okL] at hk ⊢
  obtain⟨u,us',f1,f2,rfl,rfl,h1,h2⟩:=hk
  simp only[List.all_cons,Bool.and_eq_true] at ha
  obtain⟨g1,g2⟩:=okL_flat h2 ha.2
  have hf:f1=[]:=okV_cell h1 (by cases c<;>first | rfl | simp[flat1] at ha) (by cases c<;>first | rfl | simp[flat1] at ha)
  subst hf;subst g2
  exact⟨⟨u,us',[],[],rfl,rfl,h1,g1⟩,rfl⟩
theorem okEs_flat {sz h I} {s:Nat}:∀ {es:List (List T)} {l f},okEs sz h I s es l f→es.all (·.all flat1)=true→okEs sz h I s es l []
 | [],l,f,hk,_=>by simp[okEs]
 | c::es,l,f,hk,ha=>by
  simp only[okEs] at hk ⊢
  obtain⟨f1,f2,h0,rfl,h1,h2⟩:=hk
  simp only[List.all_cons,Bool.and_eq_true] at ha
  exact⟨[],[],h0,rfl,(okL_flat h1 ha.1).1,okEs_flat h2 ha.2⟩
theorem own_cells {P:Program} {sz I} {e:TypeId} {es:List (List T)} {u:Value} {f:List Nat} (hk:okV sz w.heap I (.own e es) u f):
  ∃ news f',Cells P w (sz e) u es.length news∧okEs sz w.heap I (sz e) es news f'∧(∀ x,f'.count x≤f.count x):=by
 simp only[okV] at hk
 rcases hk with⟨rfl,rfl,ad,rfl⟩ | ⟨b,o,cap,arr,el,fz,fs',rfl,h2,h3,h4,h5,rfl,h7⟩
 ·exact⟨[],[],cells_zero (by simp),by simp[okEs],fun x=>Nat.le_refl _⟩
 ·obtain⟨news,g1,g2⟩:=cells_le (P:=P) (cap:=cap) h3 h7 rfl rfl
  exact⟨news,fs',g1,g2,fun x=>by rw[List.count_cons];omega⟩
theorem bytes_cells {P:Program} {sz h I} (s:ByteArray):Cells P w 1 (.string s) s.size (s.data.toList.map fun b=>Value.int .u8 b.toNat)∧okEs sz h I 1 (bytesT s) (s.data.toList.map fun b=>Value.int .u8 b.toNat) []:=by
 constructor
 ·refine⟨by rw[List.length_map,Nat.mul_one];rfl,fun w'=>rfl,fun w' _=>?_⟩
  simp only[Builtin.firstCells,Sem.run_pure,Result.ok.injEq,and_true]
  have hx:(s.extract 0 s.size)=s:=by
   apply ByteArray.ext
   simp
  rw[hx]
  apply Array.ext'
  simp
 ·unfold bytesT
  generalize s.data.toList=l
  induction l with
  | nil=>simp[okEs]
  | cons b l ih=>
   simp only[List.map_cons,okEs]
   exact⟨[],[],rfl,rfl,⟨_,[],[],[],rfl,rfl,by simp[okV],by simp[okL]⟩,by simpa using ih⟩
theorem src_run {rt gh FS X} {e:TypeId} {size:Nat} {t:T} {u:Value} {es:List (List T)} {ss:List CSet} (P:Program) (r:HRel (szOf E) z rt gh w FS X) (hk:okX ⟨szOf E,w.heap,Inow z w (FS++X),rt,gh⟩ t u)
  (hs:szOf E e=size) (h:(srcOf e size t).run rt=some (es,ss)):
  (ss=[]∧∃ news,Cells P w size u es.length news∧okEs (szOf E) w.heap (Inow z w (FS++X)) size es news [])∨
  (∃ d ver path c n s,t=.ref d ver path c n∧ss=[s]∧(takeRef d ver path c n).run rt=some ((e,es),s)):=by
 unfold srcOf at h
 split at h
 ·rename_i d ver path c n
  obtain⟨r0,g1,g2,g3⟩:=run_root h
  split at g3
  ·obtain⟨⟨e',es'⟩,g4,g5⟩:=run_bind g3
   split at g5
   ·rename_i hc
    obtain⟨rfl,hflat⟩:=hc
    simp only[Rd.run,Option.some.injEq,Prod.mk.injEq] at g5
    obtain⟨rfl,rfl⟩:=g5
    obtain⟨f,q1,q2,q3⟩:=r.content hk.2 g4
    obtain⟨news,f',m1,m2,m3⟩:=own_cells (P:=P) q1
    subst hs
    exact .inl ⟨rfl,news,m1,okEs_flat m2 hflat⟩
   ·simp[Rd.run] at g5
  ·obtain⟨⟨⟨e',es'⟩,s⟩,g4,g5⟩:=run_bind g3
   split at g5
   ·rename_i hc
    dsimp only at hc;subst hc
    simp only[Rd.run,Option.some.injEq,Prod.mk.injEq] at g5
    obtain⟨rfl,rfl⟩:=g5
    exact .inr ⟨d,ver,path,c,n,s,rfl,rfl,g4⟩
   ·simp[Rd.run] at g5
 ·rename_i e' es'
  split at h
  ·rename_i hc;subst hc
   simp only[Rd.run,Option.some.injEq,Prod.mk.injEq] at h
   obtain⟨rfl,rfl⟩:=h
   refine .inl ⟨rfl,?_⟩
   have k1':okV (szOf E) w.heap (Inow z w (FS++X)) (.sl e' es') u []:=hk
   simp only[okV,true_and] at k1'
   obtain⟨ad,cap,rfl,hcap,h2⟩:=k1'
   rcases h2 with rfl | ⟨b,o,arr,el,fz,rfl,q1,q2,q3⟩
   ·exact⟨[],cells_zero (by simp),by simp[okEs]⟩
   ·obtain⟨news,m1,m2⟩:=cells_le (P:=P) (cap:=cap) q2 q3 hs rfl
    rw[hs] at m2
    exact⟨news,m1,m2⟩
  ·simp[Rd.run] at h
 ·simp only[Rd.run,Option.some.injEq,Prod.mk.injEq] at h
  obtain⟨rfl,rfl⟩:=h
  have:=okX_v.1 hk
  subst this
  exact .inl ⟨rfl,[],cells_zero (by simp),by simp[okEs]⟩
 ·rename_i s
  split at h
  ·rename_i hc;subst hc
   simp only[Rd.run,Option.some.injEq,Prod.mk.injEq] at h
   obtain⟨rfl,rfl⟩:=h
   have:=okX_v.1 hk
   subst this
   refine .inl ⟨rfl,_,?_,(bytes_cells (P:=P) (w:=w) s).2⟩
   have hl:(bytesT s).length=s.size:=by simp[bytesT]
   rw[hl]
   exact (bytes_cells (P:=P) (w:=w) (sz:=szOf E) (h:=w.heap) (I:=fun _=>True) s).1
  ·simp[Rd.run] at h
 ·simp[Rd.run] at h
end src
theorem okL_one1 {sz h I}:∀ {cs us f},okL sz h I cs us f→cs.all one1=true→∀ u,u∈us→oneVal u=true
 | [],us,f,hk,_,u,hu=>by simp only[okL] at hk;rw[hk.1] at hu;simp at hu
 | c::cs,us,f,hk,ha,v,hv=>by
  simp only[okL] at hk
  obtain⟨u,us',f1,f2,rfl,rfl,h1,h2⟩:=hk
  simp only[List.all_cons,Bool.and_eq_true] at ha
  rcases List.mem_cons.1 hv with rfl | hv
  ·cases c with
   | v x=>simp only[okV] at h1;rw[h1.1];exact ha.1
   | sl e es=>simp only[okV] at h1;obtain⟨_,a,cap,rfl,_⟩:=h1;rfl
   | own e es=>simp only[okV] at h1;rcases h1 with⟨_,_,a,rfl⟩ | ⟨b,o,cap,arr,el,fz,fs',rfl,_⟩<;>rfl
   | ipt cs=>simp only[okV] at h1;obtain⟨_,b,o,arr,el,fz,rfl,_⟩:=h1;rfl
   | clo f caps=>simp only[okV] at h1;obtain⟨_,us,rfl,_⟩:=h1;rfl
   | _=>simp[one1] at ha
  ·exact okL_one1 h2 ha.2 v hv
theorem okEs_one1 {sz h I} {s:Nat}:∀ {es:List (List T)} {l f},okEs sz h I s es l f→es.all (·.all one1)=true→l.length=es.length*s→∀ u,u∈l→oneVal u=true
 | [],l,f,_,_,hl,u,hu=>by simp at hl;rw[hl] at hu;simp at hu
 | c::es,l,f,hk,ha,hl,u,hu=>by
  simp only[okEs] at hk
  obtain⟨f1,f2,h0,rfl,h1,h2⟩:=hk
  simp only[List.all_cons,Bool.and_eq_true] at ha
  rw[←List.take_append_drop s l] at hu
  rcases List.mem_append.1 hu with hu | hu
  ·exact okL_one1 h1 ha.1 u hu
  ·refine okEs_one1 h2 ha.2 ?_ u hu
   rw[List.length_drop,hl,List.length_cons,Nat.succ_mul];omega
section core
variable {E:Env} {z:Zn} {n tick:Nat} {fr:List (Nat×T)} {rt:List (Nat×Root)} {gh:Nat→G} {w:World} {FS:List Nat} {a:Act}
variable {call:FuncId→List Arg→Option Res} {me:FuncId} {d:Nat} {ty0:TypeId} {e:Eff} {o:Oper}
theorem grow_core {rt2 gh2 FS2 fs fd el es1 es2 sLen sCap olds news ie} {zv:Value} (hie:E.ti el=some ie) (r:HRel (szOf E) z rt2 gh2 w FS2 (fs++(fd++[])))
  (kp:Keeps ⟨szOf E,w.heap,Inow z w (FS++[]),rt,gh⟩ ⟨szOf E,w.heap,Inow z w (FS2++(fs++(fd++[]))),rt2,gh2⟩ (Stm tick rt)) (hS:∀ a b,Stm tick rt a b→Stm tick rt2 a b)
  (ho:okEs (szOf E) w.heap (Inow z w (FS2++(fs++(fd++[])))) (szOf E el) es1 olds fd) (hol:olds.length=es1.length*szOf E el)
  (hs:okEs (szOf E) w.heap (Inow z w (FS2++(fs++(fd++[])))) (szOf E el) es2 news fs) (hnl:news.length=es2.length*szOf E el)
  (hz:zv.cells.size=ie.size) (hold:∀ r0,lk rt2 d=some r0→r0.ver<tick) (hcap:es1.length+es2.length≤grownCap w (sLen+es2.length) sCap el) (hsl:sLen=es1.length):
  ∃ gh' FS',HRel (szOf E) z (rtUp rt2 d (rooted d tick (.own el (es1++es2))).root) gh' (w.drew.alloc (.cells (olds.toArray++news.toArray++Builtin.zeroCells zv.cells (grownCap w (sLen+es2.length) sCap el - (sLen+es2.length))) el (0,0))) FS' []∧
   Keeps ⟨szOf E,w.heap,Inow z w (FS++[]),rt,gh⟩ ⟨szOf E,(w.drew.alloc (.cells (olds.toArray++news.toArray++Builtin.zeroCells zv.cells (grownCap w (sLen+es2.length) sCap el - (sLen+es2.length))) el (0,0))).heap,
    Inow z (w.drew.alloc (.cells (olds.toArray++news.toArray++Builtin.zeroCells zv.cells (grownCap w (sLen+es2.length) sCap el - (sLen+es2.length))) el (0,0))) (FS'++[]),rtUp rt2 d (rooted d tick (.own el (es1++es2))).root,gh'⟩ (Stm tick rt)∧
   okX ⟨szOf E,(w.drew.alloc (.cells (olds.toArray++news.toArray++Builtin.zeroCells zv.cells (grownCap w (sLen+es2.length) sCap el - (sLen+es2.length))) el (0,0))).heap,
    Inow z (w.drew.alloc (.cells (olds.toArray++news.toArray++Builtin.zeroCells zv.cells (grownCap w (sLen+es2.length) sCap el - (sLen+es2.length))) el (0,0))) (FS'++[]),rtUp rt2 d (rooted d tick (.own el (es1++es2))).root,gh'⟩
    (rooted d tick (.own el (es1++es2))).val (.slice (some ⟨w.heap.size,0,none⟩) (sLen+es2.length) (grownCap w (sLen+es2.length) sCap el))∧
   stX (Stm tick (rtUp rt2 d (rooted d tick (.own el (es1++es2))).root)) (rooted d tick (.own el (es1++es2))).val:=by
 subst hsl
 have hsz:szOf E el=ie.size:=by simp[szOf,hie]
 generalize hcc:grownCap w (es1.length+es2.length) sCap el=cap at *
 have hk:=okEs_append ho hol (okEs_ext (l':=news++(Builtin.zeroCells zv.cells (cap - (es1.length+es2.length))).toList) hs (by rw[List.take_append_of_le_length (by omega),List.take_of_length_le (by omega)]))
 have hr:HRel (szOf E) z rt2 gh2 w.drew FS2 ((fd++fs)++[]):=(r.drew.perm (X':=(fd++fs)++[]) fun x=>by simp only[List.count_append,List.count_nil];omega).1
 have hI:∀ b,Inow z w (FS2++(fs++(fd++[]))) b→Inow z w.drew (FS2++((fd++fs)++[])) b:=fun b hb=>((r.drew.perm (X':=(fd++fs)++[]) fun x=>by simp only[List.count_append,List.count_nil];omega).2 b).1 hb
 have e1:(olds.toArray++news.toArray++Builtin.zeroCells zv.cells (cap - (es1.length+es2.length))).toList=olds++(news++(Builtin.zeroCells zv.cells (cap - (es1.length+es2.length))).toList):=by
  simp
 have hzl:(Builtin.zeroCells zv.cells (cap - (es1.length+es2.length))).size=(cap - (es1.length+es2.length))*ie.size:=by simp[Builtin.zeroCells,hz]
 obtain⟨gh',FS',q1,q2,q3,q4⟩:=slot_slice (d:=d) (tick:=tick) (e':=el) (el:=el) (es:=es1++es2) (arr:=olds.toArray++news.toArray++Builtin.zeroCells zv.cells (cap - (es1.length+es2.length))) (cap:=cap) (fz:=(0,0)) hr
  (by rw[e1];exact okEs_agree ⟨fun b hb=>⟨hI b hb,rfl⟩,fun b _=>rfl⟩ hk) (by rw[List.length_append];exact hcap)
  (by
   rw[Array.size_append,Array.size_append,hzl,List.size_toArray,List.size_toArray,hol,hnl,hsz,←Nat.add_mul,←Nat.add_mul]
   exact Nat.mul_le_mul_right _ (by omega)) hold fzOk_zero
 rw[List.length_append] at q3
 refine⟨gh',FS',q1,?_,q3,q4⟩
 have kp2:Keeps ⟨szOf E,w.heap,Inow z w (FS2++(fs++(fd++[]))),rt2,gh2⟩ ⟨szOf E,w.drew.heap,Inow z w.drew (FS2++((fd++fs)++[])),rt2,gh2⟩ (Stm tick rt2):=r.keeps_refl _ hI
 exact kp.trans (kp2.trans q2 fun _ _ h=>h) hS
theorem fits_core {rt2 gh2 FS2 fs fs' el es1 es2 b o' cap news} {arr:Array Value} {elt:TypeId} {fz:Nat×Nat} (r:HRel (szOf E) z rt2 gh2 w FS2 (fs++((b::fs')++[])))
  (kp:Keeps ⟨szOf E,w.heap,Inow z w (FS++[]),rt,gh⟩ ⟨szOf E,w.heap,Inow z w (FS2++(fs++((b::fs')++[]))),rt2,gh2⟩ (Stm tick rt)) (hS:∀ a b,Stm tick rt a b→Stm tick rt2 a b)
  (hb:w.heap[b]?=some (.cells arr elt fz)) (hfz:fzOk (szOf E el) fz arr.size) (hfit:o'+cap*szOf E el≤arr.size) (hcap:es1.length+es2.length≤cap)
  (ho:okEs (szOf E) w.heap (Inow z w (FS2++(fs++((b::fs')++[])))) (szOf E el) es1 (arr.toList.drop o') fs')
  (hs:okEs (szOf E) w.heap (Inow z w (FS2++(fs++((b::fs')++[])))) (szOf E el) es2 news fs) (hnl:news.length=es2.length*szOf E el)
  (hold:∀ r0,lk rt2 d=some r0→r0.ver<tick):
  ∃ gh' FS',HRel (szOf E) z (rtUp rt2 d (rooted d tick (.own el (es1++es2))).root) gh' (stores w b (o'+es1.length*szOf E el) news) FS' []∧
   Keeps ⟨szOf E,w.heap,Inow z w (FS++[]),rt,gh⟩ ⟨szOf E,(stores w b (o'+es1.length*szOf E el) news).heap,Inow z (stores w b (o'+es1.length*szOf E el) news) (FS'++[]),rtUp rt2 d (rooted d tick (.own el (es1++es2))).root,gh'⟩ (Stm tick rt)∧
   okX ⟨szOf E,(stores w b (o'+es1.length*szOf E el) news).heap,Inow z (stores w b (o'+es1.length*szOf E el) news) (FS'++[]),rtUp rt2 d (rooted d tick (.own el (es1++es2))).root,gh'⟩
    (rooted d tick (.own el (es1++es2))).val (.slice (some ⟨b,o',none⟩) (es1.length+es2.length) cap)∧
   stX (Stm tick (rtUp rt2 d (rooted d tick (.own el (es1++es2))).root)) (rooted d tick (.own el (es1++es2))).val:=by
 have hle:es1.length*szOf E el+es2.length*szOf E el≤cap*szOf E el:=by rw[←Nat.add_mul];exact Nat.mul_le_mul_right _ hcap
 obtain⟨arr',g1,g2,g3⟩:=stores_eq (vs:=news) (o:=o'+es1.length*szOf E el) hb (by omega)
 obtain⟨s1,s2,s3,s4⟩:=stores_same (b:=b) (vs:=news) (w:=w) (o:=o'+es1.length*szOf E el)
 obtain⟨r1,k1⟩:=r.float (b:=b) (w':=stores w b (o'+es1.length*szOf E el) news) (by simp) s1 s2 s3 s4 (fun x hx=>stores_ne hx)
 have huniq:=r.uniq b
 simp only[List.count_append,List.count_cons_self] at huniq
 have hb1:∀ x,x∈fs'→x≠b:=fun x hx he=>by subst he;have:=List.count_pos_iff.2 hx;omega
 have hb2:∀ x,x∈fs→x≠b:=fun x hx he=>by subst he;have:=List.count_pos_iff.2 hx;omega
 have ho':=okEs_agree (h':=(stores w b (o'+es1.length*szOf E el) news).heap) ⟨k1.old,fun x hx=>stores_ne (hb1 x hx)⟩ ho
 have hs':=okEs_agree (h':=(stores w b (o'+es1.length*szOf E el) news).heap) ⟨k1.old,fun x hx=>stores_ne (hb2 x hx)⟩ hs
 have hl1:=okEs_le ho
 have hal:arr.toList.length=arr.size:=Array.length_toList
 rw[List.length_drop,hal] at hl1
 have hrow:arr'.toList.drop o'=(arr.toList.drop o').take (es1.length*szOf E el)++(news++arr.toList.drop (o'+es1.length*szOf E el+news.length)):=by
  rw[g3,List.append_assoc,List.drop_append_of_le_length (by rw[List.length_take];omega),List.drop_take,Nat.add_sub_cancel_left]
 have hk:=okEs_append (okEs_exact ho') (by rw[List.length_take,List.length_drop];omega) (okEs_ext (l':=news++arr.toList.drop (o'+es1.length*szOf E el+news.length)) hs' (by rw[List.take_append_of_le_length (by omega),List.take_of_length_le (by omega)]))
 rw[←hrow] at hk
 have hperm:∀ x,((b::(fs'++fs))++[]).count x=(fs++((b::fs')++[])).count x:=fun x=>by simp only[List.count_append,List.count_cons,List.count_nil,List.cons_append];omega
 obtain⟨r2,hI⟩:=r1.perm hperm
 have hv:okV (szOf E) (stores w b (o'+es1.length*szOf E el) news).heap (Inow z (stores w b (o'+es1.length*szOf E el) news) (FS2++((b::(fs'++fs))++[]))) (.own el (es1++es2)) (.slice (some ⟨b,o',none⟩) (es1.length+es2.length) cap) (b::(fs'++fs)):=by
  simp only[okV]
  refine .inr ⟨b,o',cap,arr',elt,fz,fs'++fs,by rw[List.length_append],by rw[List.length_append];exact hcap,g1,by rw[g2];exact hfz,by rw[g2];exact hfit,rfl,?_⟩
  exact okEs_agree ⟨fun x hx=>⟨(hI x).1 hx,rfl⟩,fun x _=>rfl⟩ hk
 obtain⟨gh',FS',q1,q2,q3,q4⟩:=slot_own (d:=d) (tick:=tick) r2 hv hold
 have k2:Keeps ⟨szOf E,w.heap,Inow z w (FS2++(fs++((b::fs')++[]))),rt2,gh2⟩ ⟨szOf E,(stores w b (o'+es1.length*szOf E el) news).heap,Inow z (stores w b (o'+es1.length*szOf E el) news) (FS2++((b::(fs'++fs))++[])),rt2,gh2⟩ (Stm tick rt2):=
  (k1.mono (S':=Stm tick rt2) fun _ _ _=>trivial).trans (r1.keeps_refl (Stm tick rt2) fun x hx=>(hI x).1 hx) fun _ _ h=>h
 exact⟨gh',FS',q1,kp.trans (k2.trans q2 fun _ _ h=>h) hS,q3,q4⟩
end core
section app
variable {E:Env} {z:Zn} {n tick:Nat} {fr:List (Nat×T)} {rt:List (Nat×Root)} {gh:Nat→G} {w:World} {FS:List Nat} {a:Act}
variable {call:FuncId→List Arg→Option Res} {me:FuncId} {d:Nat} {ty0:TypeId} {e:Eff} {o:Oper}
theorem dst_run {el:TypeId} {t:T} {u:Value} {es:List (List T)} {ss:List CSet} (h:Here E z n tick fr rt gh w FS a) (hk:okX ⟨szOf E,w.heap,Inow z w (FS++[]),rt,gh⟩ t u)
  (he:(dstOf el t).run rt=some (es,ss)):
  ∃ FS1 f,HRel (szOf E) z (setCells tick rt ss) gh w FS1 (f++[])∧
   Keeps ⟨szOf E,w.heap,Inow z w (FS++[]),rt,gh⟩ ⟨szOf E,w.heap,Inow z w (FS1++(f++[])),setCells tick rt ss,gh⟩ (Stm tick rt)∧
   okV (szOf E) w.heap (Inow z w (FS1++(f++[]))) (.own el es) u f∧Pres (places ss) rt (setCells tick rt ss):=by
 unfold dstOf at he
 split at he
 ·rename_i d' ver path c nn
  obtain⟨⟨⟨e',es'⟩,s⟩,g1,g2⟩:=run_bind he
  split at g2
  ·rename_i hc
   dsimp only at hc;subst hc
   simp only[Rd.run,Option.some.injEq,Prod.mk.injEq] at g2
   obtain⟨rfl,rfl⟩:=g2
   obtain⟨q1,q2,q3,FS',f,q4,q5,q6⟩:=h.heap.take (tick:=tick) hk.2 g1
   exact⟨FS',f,q5,q6,okV_agree ⟨fun b hb=>q6.old b hb,fun b _=>rfl⟩ q4,(Pres.refl rt).step (tick:=tick) q1⟩
  ·simp[Rd.run] at g2
 ·simp only[Rd.run,Option.some.injEq,Prod.mk.injEq] at he
  obtain⟨rfl,rfl⟩:=he
  have:=okX_v.1 hk
  subst this
  exact⟨FS,[],h.heap,h.heap.keeps_refl _ fun b hb=>hb,by simp[okV],Pres.refl rt⟩
 ·simp[Rd.run] at he
theorem app_start {el:TypeId} {size:Nat} {ta tb:T} {ua ub:Value} {es1 es2:List (List T)} {ss1 ss2:List CSet} (h:Here E z n tick fr rt gh w FS a) (hsz:szOf E el=size)
  (ka:okX ⟨szOf E,w.heap,Inow z w (FS++[]),rt,gh⟩ ta ua) (kb:okX ⟨szOf E,w.heap,Inow z w (FS++[]),rt,gh⟩ tb ub) (kbs:stX (Stm tick rt) tb)
  (h1:(dstOf el ta).run rt=some (es1,ss1)) (h2:(srcOf el size tb).run rt=some (es2,ss2)) (hap:setsApart (ss1++ss2)=true):
  ∃ FS2 fs fd news,HRel (szOf E) z (setCells tick rt (ss1++ss2)) gh w FS2 (fs++(fd++[]))∧
   Keeps ⟨szOf E,w.heap,Inow z w (FS++[]),rt,gh⟩ ⟨szOf E,w.heap,Inow z w (FS2++(fs++(fd++[]))),setCells tick rt (ss1++ss2),gh⟩ (Stm tick rt)∧
   okV (szOf E) w.heap (Inow z w (FS2++(fs++(fd++[])))) (.own el es1) ua fd∧Cells E.P w size ub es2.length news∧
   okEs (szOf E) w.heap (Inow z w (FS2++(fs++(fd++[])))) size es2 news fs:=by
 obtain⟨FS1,fd,r1,kp1,hv,hp⟩:=dst_run h ka h1
 rcases src_run E.P h.heap kb hsz h2 with⟨rfl,news,g1,g2⟩ | ⟨d',ver,path,c,nn,s,rfl,rfl,g1⟩
 ·have e0:setCells tick rt (ss1++[])=setCells tick rt ss1:=by rw[List.append_nil]
  refine⟨FS1,[],fd,news,by rw[e0];exact r1,by rw[e0];exact kp1,hv,g1,okEs_agree ⟨kp1.old,fun b _=>rfl⟩ g2⟩
 ·obtain⟨_,_,h3⟩:=setsApart_append hap
  have h3:=h3 s (by simp)
  have g1':=hp.take g1 h3
  have kb':=(kp1.x kbs kb).2
  obtain⟨q1,q2,q3,FS',f,q4,q5,q6⟩:=r1.take (tick:=tick) kb' g1'
  obtain⟨news,f',m1,m2,m3⟩:=own_cells (P:=E.P) q4
  have hrt:setCells tick rt (ss1++[s])=setCell tick (setCells tick rt ss1) s:=by rw[setCells_append];rfl
  obtain⟨r2,hI⟩:=fewer_floats (X':=f'++(fd++[])) q5 (fun x=>by have:=m3 x;simp only[List.count_append];omega)
  subst hsz
  have kp2:=kp1.trans q6 fun a b hh=>Stm_sets a b hh
  have kp3:=q5.keeps_refl (Stm tick rt) hI
  refine⟨FS',f',fd,news,by rw[hrt];exact r2,by rw[hrt];exact kp2.trans kp3 fun _ _ h=>h,?_,m1,?_⟩
  ·exact okV_agree ⟨fun b hb=>⟨hI b (q6.old b hb).1,rfl⟩,fun b _=>rfl⟩ hv
  ·exact okEs_agree ⟨fun b hb=>⟨hI b (q6.old b hb).1,rfl⟩,fun b _=>rfl⟩ m2
theorem okEs_replicate {sz h I} {s:Nat} {c:List T} {vs:List Value} (hc:okL sz h I c vs []) (hs:c.length=s) (hvs:vs.length=s):∀ (m:Nat) {l:List Value},(∀ j,j<m→(l.drop (j*s)).take s=vs)→okEs sz h I s (List.replicate m c) l []
 | 0,l,_=>by simp[okEs]
 | m+1,l,hl=>by
  simp only[List.replicate_succ,okEs]
  refine⟨[],[],hs,rfl,?_,okEs_replicate hc hs hvs m fun j hj=>?_⟩
  ·have:=hl 0 (by omega)
   simp only[Nat.zero_mul,List.drop_zero] at this
   rw[this];exact hc
  ·have:=hl (j+1) (by omega)
   rw[List.drop_drop]
   have e1:s+j*s=(j+1)*s:=by rw[Nat.succ_mul];omega
   rw[e1];exact this
theorem zeros_row {zero:Array Value} {s m:Nat} (hs:zero.size=s):∀ j,j<m→((((Array.range (m*s)).map (zero[· % zero.size]!)).toList.drop (j*s)).take s)=zero.toList:=by
 intro j hj
 have hle:(j+1)*s≤m*s:=Nat.mul_le_mul_right _ hj
 rw[Nat.succ_mul] at hle
 apply List.ext_getElem?
 intro k
 rw[List.getElem?_take]
 by_cases hk:k<s
 ·rw[if_pos hk,List.getElem?_drop]
  have h1:j*s+k<m*s:=by omega
  have h2:(j*s+k) % zero.size=k:=by rw[hs,Nat.mul_comm,Nat.mul_add_mod,Nat.mod_eq_of_lt hk]
  simp only[Array.toList_map,Array.toList_range,List.getElem?_map]
  rw[List.getElem?_range h1]
  simp only[Option.map_some,h2]
  rw[getElem!_pos zero k (by omega)]
  simp
 ·rw[if_neg hk,List.getElem?_eq_none (by simp;omega)]
theorem wrap64 {m:Int} (h0:0≤m) (h1:m<9223372036854775808):IntKind.i64.wrap m=m:=by
 simp[IntKind.wrap,IntKind.bits,IntKind.signed]
 omega
theorem run_append_zeros {P:Program} (w:World) (t0 t1 ty e:TypeId) (k:IntKind) (i:TypeInfo) (zv:Value) (tys:Array TypeId) (h0:tys[0]?=some t0) (h1:tys[1]?=some t1) (ht:P.underlying t0=some (.slice e)) (hd:P.underlying t1=some (.int k))
  (hi:P.info? e=some i) (hz:i.zero=some zv) (hzs:zv.cells.size=i.size) (m:Int) (hm:0<m) (hmax:m≤4294967296) (hb:i.bytes≤1000):
  (Builtin.append_ tys ty #[.slice none 0 0,.int .i64 m]).run P w=.ok (.slice (some ⟨w.heap.size,0,none⟩) m.toNat (grownCap w m.toNat 0 e))
   (w.drew.alloc (.cells (#[]++Builtin.zeroCells zv.cells m.toNat++Builtin.zeroCells zv.cells (grownCap w m.toNat 0 e - m.toNat)) e (0,0))):=by
 have hw:IntKind.i64.wrap m=m:=wrap64 (by omega) (by omega)
 have hneg:¬ (m<0):=by omega
 have hmn:¬ (m.toNat≤0):=by omega
 have hbm:m*(i.bytes:Int)≤281474976710656:=by
  have h1:m.toNat*i.bytes≤4294967296*1000:=Nat.mul_le_mul (by omega) hb
  have h2:((m.toNat*i.bytes:Nat):Int)=m*i.bytes:=by rw[Int.natCast_mul,Int.toNat_of_nonneg (by omega)]
  omega
 have hbig:¬ (281474976710656<m*(i.bytes:Int)):=by omega
 have h63:¬ (9223372036854775807<(m.toNat:Int)):=by omega
 have hmn2:¬ (m≤0):=by omega
 have h63b:¬ (9223372036854775807<max m 0):=by omega
 have h48:¬ (281474976710656<Builtin.nextslicecap m.toNat 0*i.bytes):=by
  have:Builtin.nextslicecap m.toNat 0=m.toNat:=by unfold Builtin.nextslicecap;rw[if_pos (by omega)]
  rw[this]
  have h1:m.toNat*i.bytes≤4294967296*1000:=Nat.mul_le_mul (by omega) hb
  omega
 have hf:(Builtin.firstCells i.size 0 (.slice none 0 0)).run P w.drew=.ok #[] w.drew:=rfl
 unfold Builtin.append_
 simp only[h0,h1,List.getElem?_toArray,List.getElem?_cons_zero,List.getElem?_cons_succ,Sem.run_bind,run_underlying ht,Result.andThen_ok,sizeOf,run_typeInfo hi,run_underlying hd,Sem.run_pure]
 by_cases hsz:m.toNat*i.size=0
 ·have hzc:Builtin.zeroCells zv.cells m.toNat=#[]:=by unfold Builtin.zeroCells;rw[hzs,hsz];simp[Array.range]
  simp[asInt,asIntOf,hw,hneg,hbig,hmn,hmn2,h63,h63b,h48,typeInfo,zeroValue,hi,hz,Question.forced,hf,newRow,grownCap,hsz,hzc]
 ·simp[asInt,asIntOf,hw,hneg,hbig,hmn,hmn2,h63,h63b,h48,typeInfo,zeroValue,hi,hz,Question.forced,hf,newRow,grownCap,hsz]
theorem op_append {c:Call} (ht:TiOk E) (h:Here E z n tick fr rt gh w FS a) (ho:o.op=.call c) (hc:c.callee=.builtin .append) (hd:EffOk tick rt d e)
  (he:(evOp E call me (St.val fr) tick d ty0 (.call c)).run rt=some e):
  Says E z tick rt gh w FS d e (execOp a.eval o):=by
 simp only[evOp,hc] at he
 obtain⟨ts,h1,he1⟩:=run_bind he
 obtain⟨i,h2,he2⟩:=run_bind he1
 obtain⟨el,h3,he3⟩:=run_bind he2
 obtain⟨ie,h4,he4⟩:=run_bind he3
 clear he he1 he2 he3
 obtain⟨k1,k2⟩:=args_ok h.frame h1
 obtain⟨cs,hcs⟩:=execOp_builtin (a:=a) (E:=E) ho hc w
 split at he4
 ·rename_i ta tb
  obtain⟨ib,h5,he5⟩:=run_bind he4
  split at he5
  ·rename_i hib
   unfold zerosOf at he5
   split at he5
   ·rename_i m
    split at he5
    ·rename_i hcond
     obtain⟨c1,c2,c3⟩:=hcond
     simp only[Rd.run,Option.some.injEq] at he5
     obtain⟨ua,us,q1,ka,q2⟩:=k1
     obtain⟨ub,us',rfl,kb,q3⟩:=q2
     simp only[All2] at q3;subst q3
     have ea:=okX_v.1 ka
     have eb:=okX_v.1 kb
     subst ea;subst eb
     have ha:c.args.map a.eval=#[.slice none 0 0,.int .i64 m]:=by rw[←Array.toList_inj,Array.toList_map,q1]
     obtain⟨t0,a0,a1⟩:=Option.bind_eq_some_iff.1 (run_of h2)
     obtain⟨t1,b0,b1⟩:=Option.bind_eq_some_iff.1 (run_of h5)
     have hu:=(ht _ _ a1).elem el (run_of h3)
     obtain⟨d1,hd1,hint⟩:=(ht _ _ b1).int
     obtain⟨kk,rfl⟩:∃ kk,d1=.int kk:=by cases d1<;>simp[hib] at hint;exact⟨_,rfl⟩
     obtain⟨inf,zv,i1,i2,i3,i4,i5,i6,i7,i8⟩:=(ht _ _ (run_of h4)).info
     have hsz:szOf E el=ie.size:=by simp[szOf,run_of h4]
     have hmax:m≤4294967296:=by simpa[maxElems] using c2
     have hrun:=run_append_zeros (P:=E.P) w t0 t1 o.type el kk inf zv c.argTypes a0 b0 hu hd1 i1 i4 (by rw[i5,i2]) m c1 hmax (by omega)
     have hb:(Go.builtin .append c.argTypes o.type cs #[.slice none 0 0,.int .i64 m]).run E.P w=.ok (.value (.slice (some ⟨w.heap.size,0,none⟩) m.toNat (grownCap w m.toNat 0 el)))
       (w.drew.alloc (.cells (#[]++Builtin.zeroCells zv.cells m.toNat++Builtin.zeroCells zv.cells (grownCap w m.toNat 0 el - m.toNat)) el (0,0))):=by
      simp only[Go.builtin,Sem.run_bind,hrun,Result.andThen_ok];rfl
     unfold Says
     rw[hcs,ha,hb]
     have hzl:(Builtin.zeroCells zv.cells m.toNat).toList.length=(List.replicate m.toNat ie.zero).length*szOf E el:=by
      simp[Builtin.zeroCells,hsz,i5]
     obtain⟨gh',FS',p1,p2,p3,p4⟩:=grow_core (d:=d) (FS:=FS) (rt:=rt) (gh:=gh) (es1:=[]) (es2:=List.replicate m.toNat ie.zero) (olds:=[]) (news:=(Builtin.zeroCells zv.cells m.toNat).toList) (fs:=[]) (fd:=[]) (sLen:=0) (sCap:=0) (run_of h4) (floats0 (floats0 h.heap)) (h.heap.keeps_refl _ fun b hb=>hb) (fun _ _ h=>h)
      (by simp[okEs]) (by simp) (by
       rw[hsz]
       unfold Builtin.zeroCells
       rw[i5]
       exact okEs_replicate (i7 _ _) i6 (by simpa using i5) _ (by have:=zeros_row (zero:=zv.cells) (m:=m.toNat) i5;simpa[i5] using this)) hzl i5
      (fun r0 h0=>newOk_lt (ss:=[]) (hd.new ⟨tick,tick,false,[.own el (List.replicate m.toNat ie.zero)]⟩ (by rw[←he5];rfl)) h0)
      (by unfold grownCap;simp only[Question.cut,List.length_nil,List.length_replicate];omega) rfl
     simp only[List.length_replicate,Nat.zero_add,List.nil_append,Array.toArray_toList] at p1 p2 p3 p4
     show Done _ _ _ _ _ _ _ _ _ _ _
     rw[rtOf_eq,←he5,rooted_sets]
     exact⟨gh',FS',p1,p2,p3,p4⟩
    ·simp[Rd.run] at he5
   ·simp[Rd.run] at he5
  obtain⟨⟨es2,ss2⟩,h6,he6⟩:=run_bind he5
  obtain⟨⟨es1,ss1⟩,h7,he7⟩:=run_bind he6
  clear he4 he5 he6
  split at he7
  ·rename_i hcond
   obtain⟨c1,c2,c3,c4⟩:=hcond
   dsimp only at c2 c3 he7
   simp only[Rd.run,Option.some.injEq] at he7
   obtain⟨ua,us,q1,ka,q2⟩:=k1
   obtain⟨ub,us',rfl,kb,q3⟩:=q2
   simp only[All2] at q3;subst q3
   have ha:c.args.map a.eval=#[ua,ub]:=by rw[←Array.toList_inj,Array.toList_map,q1]
   obtain⟨t0,a0,a1⟩:=Option.bind_eq_some_iff.1 (run_of h2)
   obtain⟨t1,b0,b1⟩:=Option.bind_eq_some_iff.1 (run_of h5)
   have hu:=(ht _ _ a1).elem el (run_of h3)
   obtain⟨d1,hd1,hint⟩:=(ht _ _ b1).int
   obtain⟨inf,zv,i1,i2,i3,i4,i5,i6,i7,i8⟩:=(ht _ _ (run_of h4)).info
   have hnint:∀ k,d1≠.int k:=fun k hk=>by subst hk;simp[hint] at c1
   have hsz:szOf E el=ie.size:=by simp[szOf,run_of h4]
   have hsets:e.sets=ss1++ss2:=by rw[←he7,with_sets.2.2,rooted_sets];rfl
   have hval:e.val=(rooted d tick (.own el (es1++es2))).val:=by rw[←he7];rfl
   have hroot:e.root=(rooted d tick (.own el (es1++es2))).root:=by rw[←he7];rfl
   obtain⟨FS2,fs,fd,news,r,kp,hv,hce,hes⟩:=app_start h hsz ka kb (k2 tb (by simp)) h7 h6 (by rw[←hsets];exact hd.apart)
   have hold:∀ r0,lk (setCells tick rt (ss1++ss2)) d=some r0→r0.ver<tick:=fun r0 h0=>newOk_lt (hd.new _ hroot) h0
   have hone:=okEs_one1 hes c2 hce.len
   have hS:∀ a b,Stm tick rt a b→Stm tick (setCells tick rt (ss1++ss2)) a b:=fun a b hh=>Stm_sets a b hh
   have hcells:∃ base sLen sCap olds f',ua=.slice base sLen sCap∧sLen=es1.length∧Cells E.P w ie.size ua es1.length olds∧
     okEs (szOf E) w.heap (Inow z w (FS2++(fs++(fd++[])))) (szOf E el) es1 olds f'∧(∀ x,f'.count x≤fd.count x):=by
    obtain⟨olds,f',m1,m2,m3⟩:=own_cells (P:=E.P) hv
    rw[hsz] at m1
    have hv2:=hv
    simp only[okV] at hv2
    rcases hv2 with⟨rfl,_,ad,rfl⟩ | ⟨b,o',cap,arr,elt,fz,fs',rfl,_⟩
    ·exact⟨_,_,_,olds,f',rfl,rfl,m1,m2,m3⟩
    ·exact⟨_,_,_,olds,f',rfl,rfl,m1,m2,m3⟩
   obtain⟨base,sLen,sCap,olds,f',hua,hsl,ce1,eo,hcount⟩:=hcells
   have hmax:es1.length+es2.length≤4294967296:=by simpa[maxElems] using c3
   unfold Says
   rw[hcs,ha]
   by_cases hfit:sLen+es2.length≤sCap
   ·have hv2:=hv
    simp only[okV] at hv2
    rcases hv2 with⟨hes1,hfd,ad,hua2⟩ | ⟨b,o',cap,arr,elt,fz,fs',hua2,v2,v3,v4,v5,hfd,v7⟩
    ·rw[hua] at hua2
     simp only[Value.slice.injEq] at hua2
     obtain⟨rfl,rfl,rfl⟩:=hua2
     have hes2:es2=[]:=List.length_eq_zero_iff.1 (by omega)
     subst hes1;subst hes2;subst hfd
     have hnews:news=[]:=List.length_eq_zero_iff.1 (by rw[hce.len];simp)
     subst hnews
     have hrun:=run_append_fits (P:=E.P) (w:=w) t0 t1 o.type el d1 inf c.argTypes a0 b0 hu hd1 hnint i1 base 0 0 0 ub #[] (by simpa using hce.lenOf w) (by rw[i2];simpa using hce.first w rfl) (Nat.le_refl _) w (by cases base<;>rfl)
     have hb:(Go.builtin .append c.argTypes o.type cs #[ua,ub]).run E.P w=.ok (.value (.slice base 0 0)) w:=by
      rw[hua];simp only[Go.builtin,Sem.run_bind,hrun,Result.andThen_ok];rfl
     rw[hb]
     obtain⟨r',hI⟩:=fewer_floats (X':=[]++[]) r (fun x=>by simp)
     obtain⟨gh',FS',p1,p2,p3,p4⟩:=slot_own (d:=d) (tick:=tick) (f:=[]) (e:=el) (es:=[]) (u:=.slice base 0 0) r' (by simp[okV]) hold
     show Done _ _ _ _ _ _ _ _ _ _ _
     rw[rtOf_eq,hsets,hval,hroot]
     exact⟨gh',FS',p1,kp.trans ((r.keeps_refl (Stm tick (setCells tick rt (ss1++ss2))) hI).trans p2 fun _ _ h=>h) hS,p3,p4⟩
    ·rw[hua] at hua2
     simp only[Value.slice.injEq] at hua2
     obtain⟨rfl,rfl,rfl⟩:=hua2
     subst hfd
     have hle:es1.length*ie.size+es2.length*ie.size≤sCap*ie.size:=by rw[←Nat.add_mul];exact Nat.mul_le_mul_right _ hfit
     have hst:=run_storeCells_ok (P:=E.P) (vs:=news) (i:=0) (o:=o'+es1.length*ie.size) (w:=w) v3 (by rw[hce.len];rw[hsz] at v5;omega) v4.1 hone
     have hrun:=run_append_fits (P:=E.P) (w:=w) t0 t1 o.type el d1 inf c.argTypes a0 b0 hu hd1 hnint i1 (some ⟨b,o',none⟩) es1.length sCap es2.length ub news.toArray (hce.lenOf w) (by rw[i2];exact hce.first w rfl) hfit
      (stores w b (o'+es1.length*ie.size) news) (by rw[i2];simpa[addr_add] using hst)
     have hb:(Go.builtin .append c.argTypes o.type cs #[ua,ub]).run E.P w=.ok (.value (.slice (some ⟨b,o',none⟩) (es1.length+es2.length) sCap)) (stores w b (o'+es1.length*ie.size) news):=by
      rw[hua];simp only[Go.builtin,Sem.run_bind,hrun,Result.andThen_ok];rfl
     rw[hb]
     rw[←hsz] at hes hce
     obtain⟨gh',FS',p1,p2,p3,p4⟩:=fits_core (d:=d) r kp hS v3 v4 v5 hfit v7 hes hce.len hold
     show Done _ _ _ _ _ _ _ _ _ _ _
     rw[rtOf_eq,hsets,hval,hroot,←hsz]
     exact⟨gh',FS',p1,p2,p3,p4⟩
   ·have hg:sCap<sLen+es2.length:=by omega
    have hsll:=hsl
    subst hsl
    have h48:Builtin.nextslicecap (es1.length+es2.length) sCap*inf.bytes≤281474976710656:=by
     refine growslice_fits hg ?_
     rw[i3]
     calc (es1.length+es2.length)*ie.bytes≤4294967296*1000:=Nat.mul_le_mul hmax c4
      _≤140737488355328:=by decide
    have hrun:=run_append_grows (P:=E.P) (w:=w) t0 t1 o.type el d1 inf zv c.argTypes a0 b0 hu hd1 hnint i1 i4 base es1.length sCap es2.length ub olds.toArray news.toArray (hce.lenOf w)
     (by rw[i2,←hua];exact ce1.first w.drew rfl) (by rw[i2];exact hce.first w.drew rfl) hg (by omega) h48
    have hb:(Go.builtin .append c.argTypes o.type cs #[ua,ub]).run E.P w=.ok (.value (.slice (some ⟨w.heap.size,0,none⟩) (es1.length+es2.length) (grownCap w (es1.length+es2.length) sCap el)))
      (w.drew.alloc (.cells (olds.toArray++news.toArray++Builtin.zeroCells zv.cells (grownCap w (es1.length+es2.length) sCap el - (es1.length+es2.length))) el (0,0))):=by
     rw[hua];simp only[Go.builtin,Sem.run_bind,hrun,Result.andThen_ok];rfl
    rw[hb]
    obtain⟨r',hI⟩:=fewer_floats (X':=fs++(f'++[])) r (fun x=>by have:=hcount x;simp only[List.count_append];omega)
    rw[←hsz] at hes hce ce1
    obtain⟨gh',FS',p1,p2,p3,p4⟩:=grow_core (d:=d) (sLen:=es1.length) (sCap:=sCap) (run_of h4) r' (kp.trans (r.keeps_refl (Stm tick rt) hI) fun _ _ h=>h) hS
     (okEs_agree ⟨fun b hb=>⟨hI b hb,rfl⟩,fun b _=>rfl⟩ eo) ce1.len (okEs_agree ⟨fun b hb=>⟨hI b hb,rfl⟩,fun b _=>rfl⟩ hes) hce.len i5 hold
     (by unfold grownCap;simp only[Question.cut];omega) rfl
    show Done _ _ _ _ _ _ _ _ _ _ _
    rw[rtOf_eq,hsets,hval,hroot]
    exact⟨gh',FS',p1,p2,p3,p4⟩
  ·simp[Rd.run] at he7
 ·simp[Rd.run] at he4
end app
theorem sliceBounds3 {P:Program} {lo hi mx:Value} {len cap:Nat} {l:Int} {k1 k2 k3:IntKind} (hl:lo=.int k1 l) (hh:hi=.int k2 l) (hm:mx=.int k3 l) (h0:0≤l) (h2:l≤cap) (w:World):
  (Instr.sliceBounds true len cap (some lo) (some hi) (some mx)).run P w=.ok (l.toNat,l.toNat,l.toNat) w∧(l=0→(Instr.sliceBounds true len cap none (some hi) (some mx)).run P w=.ok (0,0,0) w):=by
 subst hl;subst hh;subst hm
 have e1:=sliceBound_ok (P:=P) (k:=k3) (i:=l) (y:=cap) (code:=.slice3Acap) h0 h2 w
 have e2:=sliceBound_ok (P:=P) (k:=k2) (i:=l) (y:=l.toNat) (code:=.slice3B) h0 (by omega) w
 have e3:=sliceBound_ok (P:=P) (k:=k1) (i:=l) (y:=l.toNat) (code:=.slice3C) h0 (by omega) w
 constructor
 ·simp[Instr.sliceBounds,Sem.run_bind,e1,e2,e3]
 ·intro hz
  subst hz
  rw[Int.toNat_zero] at e1 e2
  simp[Instr.sliceBounds,Sem.run_bind,e1,e2]
section app
variable {E:Env} {z:Zn} {n tick:Nat} {fr:List (Nat×T)} {rt:List (Nat×Root)} {gh:Nat→G} {w:World} {FS:List Nat} {a:Act}
variable {call:FuncId→List Arg→Option Res} {me:FuncId} {d:Nat} {ty0:TypeId} {e:Eff} {o:Oper}
theorem op_slice_clip {ty:TypeId} {x:Operand} {lo hi mx:Option Operand} (ht:TiOk E) (h:Here E z n tick fr rt gh w FS a) (ho:o.op=.slice ty x lo hi mx) (hd:EffOk tick rt d e)
  (he:(evOp E call me (St.val fr) tick d ty0 (.slice ty x lo hi mx)).run rt=some e) (hg:globOf E ty x lo hi mx=none) (hm:mx≠none):
  Says E z tick rt gh w FS d e (execOp a.eval o):=by
 simp only[evOp,hg] at he
 obtain⟨t,h1,he1⟩:=run_bind he
 obtain⟨tl,h2,he2⟩:=run_bind he1
 obtain⟨th,h3,he3⟩:=run_bind he2
 obtain⟨tm,h4,he4⟩:=run_bind he3
 clear he he1 he2 he3
 have hx:=run_of h1
 clear h1
 obtain⟨k1,k2⟩:=h.frame.val hx
 obtain⟨mo,rfl⟩:∃ mo,mx=some mo:=by cases mx with | none=>exact absurd rfl hm | some mo=>exact⟨mo,rfl⟩
 have hmne:tm.isEmpty=false:=by
  simp only[Option.toList,args] at h4
  obtain⟨t1,_,h5⟩:=run_bind h4
  obtain⟨t2,_,h6⟩:=run_bind h5
  simp only[Rd.run,Option.some.injEq] at h6
  rw[←h6];rfl
 split at he4
 ·obtain⟨lo',g1,he5⟩:=run_bind he4
  obtain⟨hi',g2,he6⟩:=run_bind he5
  rw[hmne] at he6
  simp[Rd.run] at he6
 ·rename_i el es
  obtain⟨i,g1,he5⟩:=run_bind he4
  obtain⟨l,g2,he6⟩:=run_bind he5
  obtain⟨hh,g3,he7⟩:=run_bind he6
  clear he4 he5 he6
  split at he7
  ·simp[Rd.run] at he7
  ·rename_i hel
   simp only[ne_eq,Decidable.not_not] at hel
   have hu:=(ht _ _ (run_of g1)).elem el hel
   have k1':okV (szOf E) w.heap (Inow z w (FS++[])) (.sl el es) (a.eval x) []:=k1
   simp only[okV,true_and] at k1'
   obtain⟨ad,cap,hv,hcap,r1⟩:=k1'
   split at he7
   ·rename_i hc
    rw[hmne] at hc
    simp at hc
   ·split at he7
    ·rename_i hc
     obtain⟨c0,c1,rfl,c3,c4⟩:=hc
     simp only[Rd.run,Option.some.injEq] at he7
     obtain⟨m,hm⟩:=szE ht (run_of g1) hel w
     have hmo:∃ k,a.eval mo=.int k l:=by
      rcases bound_ok h.frame h4 c4 with⟨h5,_⟩ | ⟨xo,k,h5,hk⟩
      ·simp at h5
      ·simp only[Option.some.injEq] at h5;subst h5;exact⟨k,hk⟩
     have hho:∃ ho k,hi=some ho∧a.eval ho=.int k l:=by
      rcases bound_ok h.frame h3 (run_of g3) with⟨h5,_⟩ | ⟨xo,k,h5,hk⟩
      ·subst h5
       simp only[Option.toList,args,Rd.run,Option.some.injEq] at h3
       rw[←h3] at c0;simp at c0
      ·exact⟨xo,k,h5,hk⟩
     obtain⟨km,hmo⟩:=hmo
     obtain⟨hop,kh,rfl,hho⟩:=hho
     have hlo:(lo=none∧l=0)∨∃ xo k,lo=some xo∧a.eval xo=.int k l:=bound_ok h.frame h2 (run_of g2)
     have hrun:(execOp a.eval o).run E.P w=.ok (.value (.slice ad 0 0)) w:=by
      rcases hlo with⟨rfl,rfl⟩ | ⟨xo,k,rfl,hk⟩
      ·have hb:=(sliceBounds3 (P:=E.P) (lo:=.int km 0) (len:=es.length) (cap:=cap) (k1:=km) rfl hho hmo c1 (by omega) w).2 rfl
       simp only[execOp,ho,hv,Instr.sliceAt,Option.map_none,Option.map_some,Sem.run_bind,run_underlying hu,Result.andThen_ok,Instr.slice,hb,hm.1]
       rfl
      ·have hb:=(sliceBounds3 (P:=E.P) (len:=es.length) (cap:=cap) hk hho hmo c1 (by omega) w).1
       simp only[execOp,ho,hv,Instr.sliceAt,Option.map_some,Sem.run_bind,run_underlying hu,Result.andThen_ok,Instr.slice,hb,hm.1]
       simp
     refine says_slot (ss:=[]) (e0:=rooted d tick (.own el [])) (u:=.slice ad 0 0) (w1:=w) (gh1:=gh) (I1:=Inow z w (FS++([]++[]))) hrun ?_ ?_ ?_ (h.heap.keeps_refl _ fun b hb=>hb) (slot_own (f:=[]) h.heap (by simp[okV]) ?_)
     ·rw[←he7];exact rooted_sets
     ·rw[←he7]
     ·rw[←he7]
     ·intro r0 h0
      exact newOk_lt (ss:=[]) (hd.new ⟨tick,tick,false,[.own el []]⟩ (by rw[←he7];rfl)) h0
    ·simp[Rd.run] at he7
 ·obtain⟨lo',g1,he5⟩:=run_bind he4
  obtain⟨hi',g2,he6⟩:=run_bind he5
  rw[hmne] at he6
  simp[Rd.run] at he6
 ·obtain⟨i,g1,he5⟩:=run_bind he4
  obtain⟨l,g2,he6⟩:=run_bind he5
  obtain⟨hh,g3,he7⟩:=run_bind he6
  obtain⟨rr,g4,he8⟩:=run_bind he7
  rw[hmne] at he8
  simp[Rd.run] at he8
 ·simp[Rd.run] at he4
theorem okEs_takeF {sz h I} {s:Nat}:∀ {es:List (List T)} {l f} (k:Nat),okEs sz h I s es l f→∃ f',okEs sz h I s (es.take k) l f'∧∀ x,f'.count x≤f.count x
 | es,l,f,0,_=>⟨[],by simp[okEs],fun x=>by simp⟩
 | [],l,f,k+1,hk=>⟨f,by simpa using hk,fun x=>Nat.le_refl _⟩
 | c::es,l,f,k+1,hk=>by
  simp only[okEs] at hk
  obtain⟨f1,f2,h1,rfl,h3,h4⟩:=hk
  obtain⟨f',h5,h6⟩:=okEs_takeF k h4
  refine⟨f1++f',?_,fun x=>by have:=h6 x;simp only[List.count_append];omega⟩
  simp only[List.take_succ_cons,okEs]
  exact⟨f1,f',h1,rfl,h3,h5⟩
theorem op_slice_take {ty:TypeId} {x:Operand} {lo hi:Option Operand} {d' ver c m:Nat} {path:List (Nat×Nat)} (ht:TiOk E) (h:Here E z n tick fr rt gh w FS a) (ho:o.op=.slice ty x lo hi none) (hd:EffOk tick rt d e)
  (he:(evOp E call me (St.val fr) tick d ty0 (.slice ty x lo hi none)).run rt=some e) (hg:globOf E ty x lo hi none=none) (hx:St.val fr x=some (.ref d' ver path c m)):
  Says E z tick rt gh w FS d e (execOp a.eval o):=by
 simp only[evOp,hx,hg] at he
 obtain⟨t,h1,he1⟩:=run_bind he
 have ht1:=run_of h1
 simp only[Option.some.injEq] at ht1
 subst ht1
 obtain⟨tl,h2,he2⟩:=run_bind he1
 obtain⟨th,h3,he3⟩:=run_bind he2
 obtain⟨tm,h4,he4⟩:=run_bind he3
 clear he he1 he2 he3
 obtain⟨k1,k2⟩:=h.frame.val hx
 simp only[Option.toList,args,Rd.run,Option.some.injEq] at h4;subst h4
 dsimp only at he4
 obtain⟨i,g1,he5⟩:=run_bind he4
 obtain⟨l,g2,he6⟩:=run_bind he5
 obtain⟨hh,g3,he7⟩:=run_bind he6
 obtain⟨⟨⟨el,es⟩,sc⟩,g4,he8⟩:=run_bind he7
 clear he4 he5 he6 he7
 dsimp only at he8
 split at he8
 ·rename_i hc
  obtain⟨c0,_,rfl,c2,c3⟩:=hc
  simp only[Rd.run,Option.some.injEq] at he8
  subst he8
  obtain⟨⟨ad,cap,hu⟩,k3⟩:=k1
  obtain⟨q1,q2,q3,FS',f,q4,q5,q6⟩:=h.heap.take (tick:=tick) k3 g4
  have hue:=(ht _ _ (run_of g1)).elem el c0
  obtain⟨mm,hm⟩:=szE ht (run_of g1) c0 w
  have hcap:m≤cap∧(cap=0∨∃ b o,ad=some ⟨b,o,none⟩):=by
   simp only[okV] at q4
   rw[hu] at q4
   rcases q4 with⟨rfl,_,a2,h5⟩ | ⟨b,o2,cap2,arr,elt,fz,fs',h5,h6,_⟩
   ·simp only[Value.slice.injEq] at h5;simp only[List.length_nil] at q3;exact⟨by omega,.inl h5.2.2⟩
   ·simp only[Value.slice.injEq] at h5
    obtain⟨h8,h7,rfl⟩:=h5
    exact⟨by omega,.inr ⟨b,o2,h8⟩⟩
  obtain⟨hcap,hadf⟩:=hcap
  have hl:(lo.map a.eval=none∧(0:Int)=0)∨∃ k,lo.map a.eval=some (.int k 0):=by
   rcases bound_ok h.frame h2 (run_of g2) with⟨rfl,_⟩ | ⟨xo,k,rfl,hk⟩
   ·exact .inl ⟨rfl,rfl⟩
   ·exact .inr ⟨k,by simp[hk]⟩
  have hhi:(hi.map a.eval=none∧hh=m)∨∃ k,hi.map a.eval=some (.int k hh):=by
   rcases bound_ok h.frame h3 (run_of g3) with⟨rfl,rfl⟩ | ⟨xo,k,rfl,hk⟩
   ·exact .inl ⟨rfl,rfl⟩
   ·exact .inr ⟨k,by simp[hk]⟩
  have hb:=sliceBounds2 (P:=E.P) hl hhi (Int.le_refl 0) c2 c3 hcap w
  have hrun:(execOp a.eval o).run E.P w=.ok (.value (.slice ad hh.toNat cap)) w:=by
   simp only[execOp,ho,hu,Instr.sliceAt,Option.map_none,Sem.run_bind,run_underlying hue,Result.andThen_ok,Instr.slice,hb,hm.1]
   rcases hadf with rfl | ⟨b,o2,rfl⟩
   ·simp
   ·simp[addr_add]
  have hown:∃ f',okV (szOf E) w.heap (Inow z w (FS'++(f++[]))) (.own el (es.take hh.toNat)) (.slice ad hh.toNat cap) f'∧∀ x,f'.count x≤f.count x:=by
   have hlen:(es.take hh.toNat).length=hh.toNat:=by rw[List.length_take];omega
   have q4':=okV_agree (h':=w.heap) (I':=Inow z w (FS'++(f++[]))) ⟨fun b hb=>q6.old b hb,fun b _=>rfl⟩ q4
   simp only[okV] at q4' ⊢
   rw[hu] at q4'
   rcases q4' with⟨rfl,rfl,a2,h5⟩ | ⟨b,o2,cap2,arr,elt,fz,fs',h5,h6,h7,h8,h9,rfl,h10⟩
   ·simp only[Value.slice.injEq] at h5
    obtain⟨rfl,rfl,rfl⟩:=h5
    have:hh.toNat=0:=by omega
    rw[this]
    exact⟨[],.inl ⟨by simp,rfl,ad,rfl⟩,fun x=>by simp⟩
   ·simp only[Value.slice.injEq] at h5
    obtain⟨rfl,h11,rfl⟩:=h5
    obtain⟨f',h12,h13⟩:=okEs_takeF hh.toNat h10
    refine⟨b::f',.inr ⟨b,o2,cap,arr,elt,fz,f',by rw[hlen],by rw[hlen];omega,h7,h8,h9,rfl,h12⟩,fun x=>by have:=h13 x;simp only[List.count_cons];omega⟩
  obtain⟨f',w1,w2⟩:=hown
  obtain⟨r5,hI5⟩:=fewer_floats (X':=f'++[]) q5 (fun x=>by have:=w2 x;simp only[List.count_append,List.count_nil];omega)
  refine says_slot (ss:=[sc]) (e0:=rooted d tick (.own el (es.take hh.toNat))) (u:=.slice ad hh.toNat cap) (w1:=w) (gh1:=gh) hrun ?_ rfl rfl (q6.trans (q5.keeps_refl (Stm tick rt) hI5) (fun _ _ h=>h)) (slot_own r5 ?_ ?_)
  ·rw[with_sets.2.2,rooted_sets];rfl
  ·exact okV_agree ⟨fun b hb=>⟨hI5 b hb,rfl⟩,fun b _=>rfl⟩ w1
  ·intro r1 h1
   exact newOk_lt (ss:=[sc]) (hd.new ⟨tick,tick,false,[.own el (es.take hh.toNat)]⟩ (by rw[with_sets.2.1];rfl)) h1
 ·simp[Rd.run] at he8
theorem op_makeSlice {ty:TypeId} {nn cc:Operand} (ht:TiOk E) (h:Here E z n tick fr rt gh w FS a) (ho:o.op=.makeSlice ty nn cc) (hd:EffOk tick rt d e)
  (he:(evOp E call me (St.val fr) tick d ty0 (.makeSlice ty nn cc)).run rt=some e):
  Says E z tick rt gh w FS d e (execOp a.eval o):=by
 simp only[evOp] at he
 obtain⟨tn,h1,he1⟩:=run_bind he
 obtain⟨tc,h2,he2⟩:=run_bind he1
 obtain⟨i,h3,he3⟩:=run_bind he2
 obtain⟨el,h4,he4⟩:=run_bind he3
 obtain⟨ie,h5,he5⟩:=run_bind he4
 clear he he1 he2 he3 he4
 have hn:=run_of h1
 have hc:=run_of h2
 clear h1 h2
 obtain⟨k1,k1s⟩:=h.frame.val hn
 obtain⟨k2,k2s⟩:=h.frame.val hc
 split at he5
 ·rename_i m c
  split at he5
  ·rename_i hcond
   obtain⟨rfl,c1,c2,c3⟩:=hcond
   simp only[Rd.run,Option.some.injEq] at he5
   have v1:=okX_v.1 k1
   have v2:=okX_v.1 k2
   have hu:=(ht _ _ (run_of h3)).elem el (run_of h4)
   obtain⟨inf,zv,i1,i2,i3,i4,i5,i6,i7,i8⟩:=(ht _ _ (run_of h5)).info
   have te:=ht _ _ (run_of h5)
   have hmax:m≤4294967296:=by simpa[maxElems] using c2
   have hw:=wrap64 c1 (by omega)
   have hbig:¬ ((inf.bytes:Int)*m > 281474976710656):=by
    have h1:inf.bytes*m.toNat≤1000*4294967296:=Nat.mul_le_mul (by omega) (by omega)
    have h2:((inf.bytes*m.toNat:Nat):Int)=inf.bytes*m:=by rw[Int.natCast_mul,Int.toNat_of_nonneg c1]
    omega
   have hrun:(execOp a.eval o).run E.P w=.ok (.value (.slice (some ⟨w.heap.size,0,none⟩) m.toNat m.toNat)) (w.alloc (.cells ((Array.range (m.toNat*ie.size)).map (zv.cells[· % zv.cells.size]!)) el (0,0))):=by
    have hneg:¬ (m<0):=by omega
    by_cases hz:m.toNat*ie.size=0
    ·simp[execOp,ho,v1,v2,Instr.makeSlice,Sem.run_bind,run_underlying hu,run_typeInfo i1,asInt,asIntOf,hw,hneg,hbig,te.size,hz,newRow]
     simp[Array.range]
    ·simp[execOp,ho,v1,v2,Instr.makeSlice,Sem.run_bind,run_underlying hu,run_typeInfo i1,asInt,asIntOf,hw,hneg,hbig,te.size,hz,newRow,zeroValue,i4]
   have hk:okEs (szOf E) w.heap (Inow z w (FS++([]++[]))) (szOf E el) (List.replicate m.toNat ie.zero) ((Array.range (m.toNat*ie.size)).map (zv.cells[· % zv.cells.size]!)).toList []:=by
    have hsz:szOf E el=ie.size:=by simp[szOf,run_of h5]
    rw[hsz]
    exact okEs_replicate (i7 _ _) i6 (by simpa using i5) _ (zeros_row i5)
   have hsz:szOf E el=ie.size:=by simp[szOf,run_of h5]
   obtain⟨gh',FS',p1,p2,p3,p4⟩:=slot_slice (d:=d) (tick:=tick) (el:=el) (e':=el) (es:=List.replicate m.toNat ie.zero) (cap:=m.toNat) (fz:=(0,0)) (f:=[]) (floats0 h.heap) hk (by simp) (by simp[hsz])
    (fun r0 h0=>newOk_lt (ss:=[]) (hd.new ⟨tick,tick,false,[.own el (List.replicate m.toNat ie.zero)]⟩ (by rw[←he5];rfl)) h0) fzOk_zero
   rw[List.length_replicate] at p3
   unfold Says
   rw[hrun,←he5]
   show Done _ _ _ _ _ _ _ _ _ _ _
   rw[rtOf_eq,rooted_sets]
   exact⟨gh',FS',p1,p2,p3,p4⟩
  ·simp[Rd.run] at he5
 ·simp[Rd.run] at he5
theorem op_bytes {src dst:TypeId} {x:Operand} {s:ByteArray} (ht:TiOk E) (h:Here E z n tick fr rt gh w FS a) (ho:o.op=.convert src dst x) (hd:EffOk tick rt d e)
  (he:(evOp E call me (St.val fr) tick d ty0 (.convert src dst x)).run rt=some e) (hx:St.val fr x=some (.v (.string s))) {i:TInfo} (hi:E.ti dst=some i) {el:TypeId} (hel:i.elem=some el):
  Says E z tick rt gh w FS d e (execOp a.eval o):=by
 simp only[evOp] at he
 obtain⟨t,h1,he1⟩:=run_bind he
 have h1:=run_of h1
 rw[hx] at h1
 simp only[Option.some.injEq] at h1
 rw[←h1] at he1
 dsimp only at he1
 obtain⟨i',h2,he2⟩:=run_bind he1
 have h2:=run_of h2
 rw[hi] at h2
 simp only[Option.some.injEq] at h2
 rw[←h2,hel] at he2
 dsimp only at he2
 obtain⟨ie,h3,he3⟩:=run_bind he2
 split at he3
 ·rename_i hc
  obtain⟨c1,c2⟩:=hc
  simp only[Rd.run,Option.some.injEq] at he3
  obtain⟨el',u1,u2,u3⟩:=run_u8 c1
  have hu:=(ht _ _ hi).elem el hel
  rw[u1] at hu
  simp only[Option.some.injEq,TypeDesc.slice.injEq] at hu
  subst hu
  have hv:=okX_v.1 (h.frame.val hx).1
  have hrun:(execOp a.eval o).run E.P w=.ok (.value (.slice (some ⟨w.heap.size,0,none⟩) s.size (grownCap w s.size 0 el')))
    (w.drew.alloc (.cells (bytesRow s (grownCap w s.size 0 el')) el' ((bytesRow s (grownCap w s.size 0 el')).size,(bytesRow s (grownCap w s.size 0 el')).size+1))):=by
   simp only[execOp,ho,hv,Sem.run_bind]
   rw[run_bytes_of_string w src dst el' s u3 u1 u2]
   rfl
  have hsz:szOf E el'=1:=by simp[szOf,run_of h3,c2]
  have hcap:s.size≤grownCap w s.size 0 el':=by unfold grownCap;simp only[Question.cut];omega
  have hl:(bytesT s).length=s.size:=by simp[bytesT]
  have hrow:(bytesRow s (grownCap w s.size 0 el')).size=grownCap w s.size 0 el':=by
   simp only[bytesRow,Array.size_append,Array.size_map,Array.size_replicate]
   have:s.data.size=s.size:=rfl
   omega
  have hk:okEs (szOf E) w.heap (Inow z w (FS++([]++[]))) (szOf E el') (bytesT s) (bytesRow s (grownCap w s.size 0 el')).toList []:=by
   rw[hsz]
   refine okEs_ext (bytes_cells (P:=E.P) (w:=w) s).2 ?_
   have hlen:(s.data.toList.map fun b=>Value.int .u8 b.toNat).length=s.size:=by rw[List.length_map];rfl
   rw[hl,Nat.mul_one]
   simp only[bytesRow,Array.toList_append,Array.toList_map]
   rw[List.take_append_of_le_length (by omega)]
  have hr:HRel (szOf E) z rt gh w.drew FS ([]++[]):=h.heap.drew
  obtain⟨gh',FS',p1,p2,p3,p4⟩:=slot_slice (d:=d) (tick:=tick) (el:=el') (e':=el') (es:=bytesT s) (cap:=grownCap w s.size 0 el') (arr:=bytesRow s (grownCap w s.size 0 el'))
   (fz:=((bytesRow s (grownCap w s.size 0 el')).size,(bytesRow s (grownCap w s.size 0 el')).size+1)) (f:=[]) hr hk (by omega) (by rw[hsz];omega)
   (fun r0 h0=>newOk_lt (ss:=[]) (hd.new ⟨tick,tick,false,[.own el' (bytesT s)]⟩ (by rw[←he3];rfl)) h0) ⟨fun i hi h=>by omega,.inl hsz⟩
  rw[hl] at p3
  unfold Says
  rw[hrun,←he3]
  show Done _ _ _ _ _ _ _ _ _ _ _
  rw[rtOf_eq,rooted_sets]
  exact⟨gh',FS',p1,p2,p3,p4⟩
 ·simp[Rd.run] at he3
end app
theorem foldl_set {off:Nat}:∀ (l:List Value) (k:Nat) (cells:Array Value),off+k+l.length≤cells.size→
  ((l.zipIdx k).foldl (fun cs p=>cs.setIfInBounds (off+p.2) p.1) cells).toList=cells.toList.take (off+k)++l++cells.toList.drop (off+k+l.length)
 | [],k,cells,h=>by simp
 | v::l,k,cells,h=>by
  simp only[List.length_cons] at h
  simp only[List.zipIdx_cons,List.foldl_cons]
  have hol:off+k<cells.toList.length:=by rw[Array.length_toList];omega
  rw[foldl_set l (k+1) _ (by simp;omega)]
  have e1:(cells.setIfInBounds (off+k) v).toList.take (off+(k+1))=cells.toList.take (off+k)++[v]:=by
   rw[Array.toList_setIfInBounds,List.set_eq_take_append_cons_drop,if_pos hol,List.take_append]
   have:(cells.toList.take (off+k)).length=off+k:=by rw[List.length_take];omega
   rw[this,List.take_of_length_le (by omega)]
   have e2:off+(k+1) - (off+k)=1:=by omega
   rw[e2];simp
  have e2:(cells.setIfInBounds (off+k) v).toList.drop (off+(k+1)+l.length)=cells.toList.drop (off+k+(l.length+1)):=by
   rw[Array.toList_setIfInBounds,List.drop_set_of_lt (by omega)]
   congr 1;omega
  rw[e1,e2]
  simp
theorem fill_cells {off:Nat} {v:Value} {cells:Array Value} (h:off+v.cells.size≤cells.size):
  (v.cells.zipIdx.foldl (fun cs (c,j)=>cs.setIfInBounds (off+j) c) cells).toList=cells.toList.take off++v.cells.toList++cells.toList.drop (off+v.cells.size):=by
 have:=foldl_set (off:=off) v.cells.toList 0 cells (by rw[Array.length_toList];omega)
 rw[Nat.add_zero,Array.length_toList] at this
 rw[←this,←Array.foldl_toList,Array.toList_zipIdx]
def Q1 (x:Cx) (S:Nat→Nat→Prop) (c:T) (u:Value):Prop:=
 (isOwn c=true→okV x.sz x.h x.I c u [])∧(isOwn c=false→∀ d v p k,okX0 x (view1 d v p k c) u∧st0 S (view1 d v p k c))
theorem okMix_All2 {x:Cx} {S}:∀ {cs us},okMix x S cs us []↔All2 (Q1 x S) cs us
 | [],us=>by simp[okMix,All2]
 | c::cs,us=>by
  constructor
  ·intro h
   simp only[okMix] at h
   obtain⟨u,us',f1,f2,rfl,hf,h1,h2,h3⟩:=h
   obtain⟨rfl,rfl⟩:f1=[]∧f2=[]:=by simpa using hf.symm
   exact⟨u,us',rfl,⟨h1,fun hc=>(h2 hc).2⟩,okMix_All2.1 h3⟩
  ·rintro⟨u,us',rfl,⟨h1,h2⟩,h3⟩
   exact⟨u,us',[],[],rfl,rfl,h1,fun hc=>⟨rfl,h2 hc⟩,okMix_All2.2 h3⟩
theorem All2.append {α β:Type} {R:α→β→Prop}:∀ {a1 a2:List α} {b1 b2:List β},All2 R a1 b1→All2 R a2 b2→All2 R (a1++a2) (b1++b2)
 | [],a2,b1,b2,h1,h2=>by simp only[All2] at h1;subst h1;simpa using h2
 | x::a1,a2,b1,b2,h1,h2=>by
  obtain⟨b,bs,rfl,g1,g2⟩:=h1
  exact⟨b,bs++b2,rfl,g1,g2.append h2⟩
theorem Q1_of {x:Cx} {S} {c:T} {u:Value} (h:okX0 x c u) (hs:st0 S c):Q1 x S c u:=by
 refine⟨fun hc=>?_,fun hc d v p k=>?_⟩
 ·cases c<;>first | exact h | simp[isOwn] at hc
 ·cases c<;>first
   | exact⟨h,hs⟩
   | exact⟨okX0_dead,trivial⟩
   | simp[isOwn] at hc
theorem All2.Q1 {x:Cx} {S}:∀ {cs us},All2 (okX0 x) cs us→(∀ c,c∈cs→st0 S c)→All2 (Q1 x S) cs us
 | [],us,h,_=>h
 | c::cs,us,h,hs=>by
  obtain⟨u,us',rfl,h1,h2⟩:=h
  exact⟨u,us',rfl,Q1_of h1 (hs c (by simp)),h2.Q1 fun c hc=>hs c (by simp[hc])⟩
theorem fillParts_ok {x:Cx} {S} {i:TInfo}:∀ {ps:List (Nat×List T)} {vps:List (Nat×Value)} {cs cs':List T} {us:Array Value},fillParts i cs ps=some cs'→All2 (Q1 x S) cs us.toList→
  All2 (fun p v=>p.1=v.1∧All2 (Q1 x S) p.2 v.2.cells.toList) ps vps→∃ us',Instr.fill (i.fields.toArray[·]?) us vps=some us'∧All2 (Q1 x S) cs' us'.toList
 | [],vps,cs,cs',us,h,hk,hp=>by
  simp only[All2] at hp;subst hp
  simp only[fillParts,Option.some.injEq] at h;subst h
  exact⟨us,rfl,hk⟩
 | (k,xs)::ps,vps,cs,cs',us,h,hk,hp=>by
  obtain⟨⟨k',v⟩,vps',rfl,⟨rfl,h1⟩,h2⟩:=hp
  simp only[fillParts] at h
  split at h
  ·rename_i off size hf
   split at h
   ·rename_i hc
    obtain⟨c1,c2⟩:=hc
    have l1:us.size=cs.length:=by have:=hk.len;rwa[Array.length_toList] at this
    have l2:v.cells.size=xs.length:=by have:=h1.len;rwa[Array.length_toList] at this
    have hfit:off+v.cells.size≤us.size:=by omega
    obtain⟨us',g1,g2⟩:=fillParts_ok (us:=v.cells.zipIdx.foldl (fun cs (c,j)=>cs.setIfInBounds (off+j) c) us) h (by
     rw[fill_cells hfit]
     unfold splice
     rw[l2]
     exact ((hk.take off).append h1).append (hk.drop (off+xs.length))) h2
    refine⟨us',?_,g2⟩
    have hf':i.fields.toArray[k]?=some (off,size):=by rw[List.getElem?_toArray];exact hf
    dsimp only
    unfold Instr.fill
    simp only[hf']
    rw[if_neg (by simp;omega)]
    exact g1
   ·simp at h
  ·simp at h
section lit
variable {E:Env} {z:Zn} {n tick:Nat} {fr:List (Nat×T)} {rt:List (Nat×Root)} {gh:Nat→G} {w:World} {FS:List Nat} {a:Act}
variable {call:FuncId→List Arg→Option Res} {me:FuncId} {d:Nat} {ty0:TypeId} {e:Eff} {o:Oper}
theorem buildParts_ok {x:Cx} {S:Nat→Nat→Prop} {nn:Nat} (f:FRel x S nn fr a):∀ {ps:List (Nat×Operand)} {ts:List (Nat×T)},(evBuildParts E (St.val fr) ps).run rt=some ts→
  All2 (fun p v=>p.1=v.1∧okX x p.2 v.2∧stX S p.2) ts (ps.map fun p=>(p.1,a.eval p.2))
 | [],ts,h=>by simp only[evBuildParts,Rd.run,Option.some.injEq] at h;subst h;rfl
 | (k,o)::ps,ts,h=>by
  simp only[evBuildParts] at h
  obtain⟨t,h1,h2⟩:=run_bind h
  obtain⟨ts',h3,h4⟩:=run_bind h2
  simp only[Rd.run,Option.some.injEq] at h4;subst h4
  obtain⟨k1,k2⟩:=f.val (run_of h1)
  exact⟨_,_,rfl,⟨rfl,k1,k2⟩,buildParts_ok f h3⟩
theorem op_build {ty:TypeId} {parts:Array (Nat×Operand)} (ht:TiOk E) (h:Here E z n tick fr rt gh w FS a) (ho:o.op=.build ty parts) (hd:EffOk tick rt d e)
  (he:(evOp E call me (St.val fr) tick d ty0 (.build ty parts)).run rt=some e):
  Says E z tick rt gh w FS d e (execOp a.eval o):=by
 simp only[evOp] at he
 obtain⟨i,h1,he1⟩:=run_bind he
 obtain⟨ps,h2,he2⟩:=run_bind he1
 clear he he1
 split at he2
 ·simp[Rd.run] at he2
 ·rename_i hc
  simp only[Bool.or_eq_true,not_or,Bool.not_eq_true,List.isEmpty_eq_false_iff,List.any_eq_false] at hc
  obtain⟨c1,c2⟩:=hc
  split at he2
  ·rename_i cs hcs
   simp only[Rd.run,Option.some.injEq] at he2
   have ti:=ht _ _ (run_of h1)
   obtain⟨inf,zv,i1,i2,i3,i4,i5,i6,i7,i8⟩:=ti.info
   obtain⟨fs,u1,u2⟩:=ti.places c1
   have hp:=buildParts_ok h.frame h2
   have hp2:All2 (fun p v=>p.1=v.1∧All2 (Q1 ⟨szOf E,w.heap,Inow z w (FS++[]),rt,gh⟩ (Stm tick rt)) p.2 v.2.cells.toList) (ps.map fun p=>(p.1,partCells (zeroAt i p.1) p.2)) (parts.toList.map fun p=>(p.1,a.eval p.2)):=by
    have:∀ {ps:List (Nat×T)} {vs:List (Nat×Value)},(∀ p,p∈ps→isDead p.2=false)→All2 (fun p v=>p.1=v.1∧okX ⟨szOf E,w.heap,Inow z w (FS++[]),rt,gh⟩ p.2 v.2∧stX (Stm tick rt) p.2) ps vs→
      All2 (fun p v=>p.1=v.1∧All2 (Q1 ⟨szOf E,w.heap,Inow z w (FS++[]),rt,gh⟩ (Stm tick rt)) p.2 v.2.cells.toList) (ps.map fun p=>(p.1,partCells (zeroAt i p.1) p.2)) vs:=by
     intro ps
     induction ps with
     | nil=>intro vs _ h;exact h
     | cons p ps ih=>
      intro vs hd h
      obtain⟨v,vs',rfl,⟨q1,q2,q3⟩,q4⟩:=h
      obtain⟨m1,m2⟩:=part_cells (zero:=zeroAt i p.1) q2 q3 (fun hh=>by have:=hd p (by simp);rw[hh] at this;simp[isDead] at this)
      exact⟨v,vs',rfl,⟨q1,m1.Q1 m2⟩,ih (fun p hp=>hd p (by simp[hp])) q4⟩
    exact this (fun p hp=>by have:=c2 p hp;simpa using this) hp
   have hz:All2 (Q1 ⟨szOf E,w.heap,Inow z w (FS++[]),rt,gh⟩ (Stm tick rt)) i.zero zv.cells.toList:=by
    obtain⟨m1,m2⟩:=okL_0 (x:=⟨szOf E,w.heap,Inow z w (FS++[]),rt,gh⟩) (S:=Stm tick rt) (i7 w.heap (Inow z w (FS++[])))
    exact m1.Q1 m2
   obtain⟨us,g1,g2⟩:=fillParts_ok hcs hz hp2
   have hrun:(execOp a.eval o).run E.P w=.ok (.value (.agg us)) w:=by
    have hzv:(zeroValue ty).run E.P w=.ok zv w:=by simp[zeroValue,run_typeInfo i1,i4]
    simp only[execOp,ho,Instr.build,Sem.run_bind,hzv,Result.andThen_ok,run_underlying u1,u2,Array.toList_map]
    rw[g1]
    rfl
   refine says_slot (ss:=[]) (e0:=rooted d tick (.agg cs)) (u:=.agg us) (w1:=w) (gh1:=gh) (I1:=Inow z w (FS++([]++[]))) hrun ?_ ?_ ?_ (h.heap.keeps_refl _ fun b hb=>hb) ?_
   ·rw[←he2];exact rooted_sets
   ·rw[←he2]
   ·rw[←he2]
   ·have:=slot_agg (d:=d) (tick:=tick) (f:=[]) (floats0 h.heap) (okMix_All2.2 g2) (fun ha r0 h0=>newOk_lt (ss:=[]) (hd.new ⟨tick,tick,false,cs.map bare⟩ (by rw[←he2];simp[rooted,ha])) h0)
    rwa[Array.toArray_toList] at this
  ·simp[Rd.run] at he2
end lit
def okParts (sz:TypeId→Nat) (h:Array Obj) (I:Nat→Prop):List (Nat×List T)→List (Nat×Value)→List Nat→Prop
 | [],vs,f=>vs=[]∧f=[]
 | p::ps,vs,f=>∃ v vs' f1 f2,vs=v::vs'∧f=f1++f2∧p.1=v.1∧okL sz h I p.2 v.2.cells.toList f1∧okParts sz h I ps vs' f2
theorem okParts_agree {sz h h' I I'}:∀ {ps vs f},Agree h h' I I' f→okParts sz h I ps vs f→okParts sz h' I' ps vs f
 | [],vs,f,_,hk=>hk
 | p::ps,vs,f,ha,hk=>by
  obtain⟨v,vs',f1,f2,rfl,rfl,h1,h2,h3⟩:=hk
  exact⟨v,vs',f1,f2,rfl,rfl,h1,okL_agree ha.left h2,okParts_agree ha.right h3⟩
theorem fillElems_ok {sz hp I} {s:Nat}:∀ {ps:List (Nat×List T)} {vps:List (Nat×Value)} {es es':List (List T)} {l:Array Value} {f0 f:List Nat},fillElems s es ps=some es'→
  okEs sz hp I s es l.toList f0→l.size=es.length*s→okParts sz hp I ps vps f→
  ∃ l' f',Instr.fill (fun i=>some (i*s,s)) l vps=some l'∧okEs sz hp I s es' l'.toList f'∧l'.size=es'.length*s∧es'.length=es.length∧∀ x,f'.count x≤f0.count x+f.count x
 | [],vps,es,es',l,f0,f,h,hk,hl,hpp=>by
  obtain⟨rfl,rfl⟩:=hpp
  simp only[fillElems,Option.some.injEq] at h;subst h
  exact⟨l,f0,rfl,hk,hl,rfl,fun x=>by simp⟩
 | (k,xs)::ps,vps,es,es',l,f0,f,h,hk,hl,hpp=>by
  obtain⟨⟨k',v⟩,vps',f1,f2,rfl,rfl,rfl,h1,h2⟩:=hpp
  simp only[fillElems] at h
  split at h
  ·rename_i hc
   obtain⟨c1,c2⟩:=hc
   dsimp only at h1
   have l2:v.cells.size=xs.length:=by have:=okL_length h1;rwa[Array.length_toList] at this
   have hle:(k+1)*s≤es.length*s:=Nat.mul_le_mul_right _ c2
   rw[Nat.succ_mul] at hle
   have hfit:k*s+v.cells.size≤l.size:=by omega
   have hfc:=fill_cells hfit
   generalize hl1:(v.cells.zipIdx.foldl (fun cs (c,j)=>cs.setIfInBounds (k*s+j) c) l)=l1 at hfc
   have hg:es[k]?=some es[k]:=by simp[c2]
   obtain⟨fo,fr,g0,g1,g2,g3⟩:=okEs_focus hk hg
   have hll:l.toList.length=l.size:=Array.length_toList
   have hvl:v.cells.toList.length=s:=by rw[Array.length_toList];omega
   have e1:(l1.toList.drop (k*s)).take s=v.cells.toList:=by
    rw[hfc,List.append_assoc,List.drop_append_of_le_length (by rw[List.length_take];omega),List.drop_take,Nat.sub_self,List.take_zero,List.nil_append,List.take_append_of_le_length (by omega),List.take_of_length_le (by omega)]
   have e2:l1.toList.take (k*s)=l.toList.take (k*s):=by
    rw[hfc,List.append_assoc,List.take_append_of_le_length (by rw[List.length_take];omega),List.take_take,Nat.min_self]
   have e3:l1.toList.drop (k*s+s)=l.toList.drop (k*s+s):=by
    rw[hfc,List.drop_append,List.drop_of_length_le (by rw[List.length_append,List.length_take];omega),List.nil_append,List.drop_drop]
    congr 1
    rw[List.length_append,List.length_take];omega
   obtain⟨fs',q1,q2⟩:=g3 hp I xs l1.toList f1 ⟨fun b hb=>⟨hb,rfl⟩,fun b _=>rfl⟩ c1 (by rw[e1];exact h1) e2 e3
   have hl1s:l1.size=(es.set k xs).length*s:=by
    have:=congrArg List.length hfc
    rw[Array.length_toList,List.length_append,List.length_append,List.length_take,List.length_drop] at this
    rw[List.length_set];omega
   obtain⟨l',f',m1,m2,m3,m4,m5⟩:=fillElems_ok h q1 hl1s h2
   refine⟨l',f',?_,m2,m3,by rw[m4,List.length_set],fun x=>?_⟩
   ·unfold Instr.fill
    simp only
    rw[if_neg (by simp;omega),hl1]
    exact m1
   ·have a1:=m5 x
    have a2:=q2 x
    have a3:=g1 x
    simp only[List.count_append]
    omega
  ·simp at h
section lit
variable {E:Env} {z:Zn} {n tick:Nat} {fr:List (Nat×T)} {rt:List (Nat×Root)} {gh:Nat→G} {w:World} {FS:List Nat} {a:Act}
variable {call:FuncId→List Arg→Option Res} {me:FuncId} {d:Nat} {ty0:TypeId} {e:Eff} {o:Oper}
theorem elems_ok {sz:TypeId→Nat} {tk:Nat→Bool} {zero:List T} {rt0:List (Nat×Root)}:∀ {ps:List (Nat×T)} {vs:List (Nat×Value)} {xs:List (Nat×List T)} {ss:List CSet} {rt1 FS1 X D},HRel sz z rt1 gh w FS1 X→Pres D rt0 rt1→
  (evElems tk zero ps).run rt0=some (xs,ss)→setsApart ss=true→(∀ s,s∈ss→(s.d,s.c)∉D)→
  All2 (fun p v=>p.1=v.1∧okX ⟨sz,w.heap,Inow z w (FS1++X),rt1,gh⟩ p.2 v.2∧stX (Stm tick rt1) p.2) ps vs→
  ∃ FS' f,HRel sz z (setCells tick rt1 ss) gh w FS' (f++X)∧
   Keeps ⟨sz,w.heap,Inow z w (FS1++X),rt1,gh⟩ ⟨sz,w.heap,Inow z w (FS'++(f++X)),setCells tick rt1 ss,gh⟩ (Stm tick rt1)∧
   okParts sz w.heap (Inow z w (FS'++(f++X))) xs vs f
 | [],vs,xs,ss,rt1,FS1,X,D,r,p,h,_,_,hv=>by
  simp only[evElems,Rd.run,Option.some.injEq,Prod.mk.injEq] at h
  obtain⟨rfl,rfl⟩:=h
  simp only[All2] at hv;subst hv
  exact⟨FS1,[],r,r.keeps_refl _ fun b hb=>hb,rfl,rfl⟩
 | (k,t)::ps,vs,xs,ss,rt1,FS1,X,D,r,p,h,hap,hD,hv=>by
  simp only[evElems] at h
  obtain⟨⟨ts,s1⟩,h1,h2⟩:=run_bind h
  obtain⟨⟨rs,s2⟩,h3,h4⟩:=run_bind h2
  simp only[Rd.run,Option.some.injEq,Prod.mk.injEq] at h4
  obtain⟨rfl,rfl⟩:=h4
  obtain⟨⟨k',v⟩,vs',rfl,⟨rfl,q2,q3⟩,q4⟩:=hv
  dsimp only at q2 q3 h1 h3
  obtain⟨a1,a2,a3⟩:=setsApart_append hap
  obtain⟨p1,p2⟩:=part_cells (zero:=zero) q2 q3 (fun hd=>inline_dead (hd▸h1))
  obtain⟨FS2,f,L,g1,g2⟩:=inlineL_ok (tick:=tick) r p h1 a1 (fun s hs=>hD s (by simp[hs])) p1 p2
  have hv2:All2 (fun p v=>p.1=v.1∧okX ⟨sz,w.heap,Inow z w (FS2++(f++X)),setCells tick rt1 s1,gh⟩ p.2 v.2∧stX (Stm tick (setCells tick rt1 s1)) p.2) ps vs':=
   q4.imp fun p v _ hpv=>⟨hpv.1,L.keeps.x hpv.2.2 hpv.2.1,by
    have hm:=hpv.2.2
    have st0m:∀ t,st0 (Stm tick rt1) t→st0 (Stm tick (setCells tick rt1 s1)) t:=fun t ht=>by cases t<;>first | trivial | exact Stm_sets _ _ ht
    have st1m:∀ t,st1 (Stm tick rt1) t→st1 (Stm tick (setCells tick rt1 s1)) t:=fun t ht=>by
     cases t<;>first | trivial | exact Stm_sets _ _ ht | exact fun c hc=>st0m c (ht c hc)
    generalize p.2=t2 at hm
    cases t2<;>first | trivial | exact Stm_sets _ _ hm | exact fun c hc=>st0m c (hm c hc) | exact fun c hc=>st1m c (hm c hc)⟩
  obtain⟨FS3,f3,r3,k3,o3⟩:=elems_ok L.rel L.pres h3 a2 (fun s hs=>by
   have h1:=hD s (by simp[hs])
   have h2:=a3 s hs
   simp only[List.mem_append,not_or]
   exact⟨h2,h1⟩) hv2
  have hrt:setCells tick rt1 (s1++s2)=setCells tick (setCells tick rt1 s1) s2:=setCells_append
  obtain⟨r4,hI⟩:=r3.perm (X':=(f++f3)++X) fun x=>by simp only[List.count_append];omega
  refine⟨FS3,f++f3,by rw[hrt];exact r4,?_,(k,v),vs',f,f3,rfl,rfl,rfl,?_,?_⟩
  ·rw[hrt]
   exact (L.keeps.trans k3 fun a b h=>Stm_sets a b h).trans (r3.keeps_refl (Stm tick rt1) fun b hb=>(hI b).1 hb) fun _ _ h=>h
  ·exact okL_agree ⟨fun b hb=>⟨(hI b).1 (k3.old b hb).1,rfl⟩,fun b _=>rfl⟩ g1
  ·exact okParts_agree ⟨fun b hb=>⟨(hI b).1 hb,rfl⟩,fun b _=>rfl⟩ o3
theorem op_buildSlice {ty:TypeId} {nn:Nat} {parts:Array (Nat×Operand)} (ht:TiOk E) (h:Here E z n tick fr rt gh w FS a) (ho:o.op=.buildSlice ty nn parts) (hd:EffOk tick rt d e)
  (he:(evOp E call me (St.val fr) tick d ty0 (.buildSlice ty nn parts)).run rt=some e):
  Says E z tick rt gh w FS d e (execOp a.eval o):=by
 simp only[evOp] at he
 obtain⟨i,h1,he1⟩:=run_bind he
 obtain⟨el,h2,he2⟩:=run_bind he1
 obtain⟨ie,h3,he3⟩:=run_bind he2
 obtain⟨ps,h4,he4⟩:=run_bind he3
 obtain⟨⟨xs,ss⟩,h5,he5⟩:=run_bind he4
 clear he he1 he2 he3 he4
 split at he5
 ·rename_i hc
  simp only[Bool.and_eq_true,decide_eq_true_eq] at hc
  obtain⟨_,c2⟩:=hc
  split at he5
  ·rename_i es hes
   simp only[Rd.run,Option.some.injEq] at he5
   have hu:=(ht _ _ (run_of h1)).elem el (run_of h2)
   have te:=ht _ _ (run_of h3)
   obtain⟨inf,zv,i1,i2,i3,i4,i5,i6,i7,i8⟩:=te.info
   have hsz:szOf E el=ie.size:=by simp[szOf,run_of h3]
   have hsets:e.sets=ss:=by rw[←he5,with_sets.2.2,rooted_sets];rfl
   have hval:e.val=(rooted d tick (.own el es)).val:=by rw[←he5];rfl
   have hroot:e.root=(rooted d tick (.own el es)).root:=by rw[←he5];rfl
   obtain⟨FS',f,r,kp,hp⟩:=elems_ok (tick:=tick) (D:=[]) h.heap (Pres.refl rt) h5 (by rw[←hsets];exact hd.apart) (fun s _=>by simp) (buildParts_ok h.frame h4)
   have hz:okEs (szOf E) w.heap (Inow z w (FS'++(f++[]))) ie.size (List.replicate nn ie.zero) ((Array.range (nn*ie.size)).map (zv.cells[· % zv.cells.size]!)).toList []:=
    okEs_replicate (i7 _ _) i6 (by simpa using i5) _ (zeros_row i5)
   obtain⟨l',f',g1,g2,g3,g4,g5⟩:=fillElems_ok hes hz (by simp) hp
   rw[List.length_replicate] at g4
   have hrun:(execOp a.eval o).run E.P w=.ok (.value (.slice (some ⟨w.heap.size,0,none⟩) nn nn)) (w.alloc (.cells l' el (0,0))):=by
    have hsm:¬ (nn*ie.size > 2 ^ 24):=by simpa using c2
    by_cases h0:nn*ie.size=0
    ·have hfill:∀ arr0:Array Value,arr0.size=0→Instr.fill (fun i=>some (i*ie.size,ie.size)) arr0 (parts.toList.map fun p=>(p.1,a.eval p.2))=some l':=fun arr0 ha=>by
      rw[Array.eq_empty_of_size_eq_zero ha]
      rw[h0] at g1
      rwa[Array.eq_empty_of_size_eq_zero (show ((Array.range 0).map (zv.cells[· % zv.cells.size]!)).size=0 by simp)] at g1
     simp only[execOp,ho,Instr.buildSlice,Sem.run_bind,run_underlying hu,Result.andThen_ok,te.size,h0,if_true,Sem.run_pure,Array.toList_map]
     simp[hfill,newRow]
    ·simp only[execOp,ho,Instr.buildSlice,Sem.run_bind,run_underlying hu,Result.andThen_ok,te.size,hsm,if_false,h0,Array.toList_map]
     simp[zeroValue,run_typeInfo i1,i4,g1,newRow]
   obtain⟨r',hI⟩:=fewer_floats (X':=f'++[]) r (fun x=>by have:=g5 x;simp only[List.count_append,List.count_nil] at *;omega)
   obtain⟨gh',FS2,p1,p2,p3,p4⟩:=slot_slice (d:=d) (tick:=tick) (el:=el) (e':=el) (es:=es) (cap:=nn) (arr:=l') (fz:=(0,0)) (f:=f') r'
    (by rw[hsz];exact okEs_agree ⟨fun b hb=>⟨hI b hb,rfl⟩,fun b _=>rfl⟩ g2) (by omega) (by rw[hsz,g3,g4];exact Nat.le_refl _)
    (fun r0 h0=>newOk_lt (ss:=ss) (hd.new _ hroot) h0) fzOk_zero
   rw[g4] at p3
   unfold Says
   rw[hrun]
   show Done _ _ _ _ _ _ _ _ _ _ _
   rw[rtOf_eq,hsets,hval,hroot]
   exact⟨gh',FS2,p1,(kp.trans (r.keeps_refl (Stm tick rt) hI) fun _ _ h=>h).trans p2 fun a b h=>Stm_sets a b h,p3,p4⟩
  ·simp[Rd.run] at he5
 ·simp[Rd.run] at he5
end lit
theorem okL_split {sz h I}:∀ {c1 c2 us f},okL sz h I (c1++c2) us f→∃ u1 u2 f1 f2,us=u1++u2∧f=f1++f2∧u1.length=c1.length∧okL sz h I c1 u1 f1∧okL sz h I c2 u2 f2
 | [],c2,us,f,hk=>⟨[],us,[],f,rfl,rfl,rfl,by simp[okL],hk⟩
 | c::c1,c2,us,f,hk=>by
  simp only[List.cons_append,okL] at hk
  obtain⟨u,us',f1,f2,rfl,rfl,h1,h2⟩:=hk
  obtain⟨u1,u2,f3,f4,rfl,rfl,hl,h3,h4⟩:=okL_split h2
  exact⟨u::u1,u2,f1++f3,f4,rfl,by simp,by simp[hl],by simp only[okL];exact⟨u,u1,f1,f3,rfl,rfl,h1,h3⟩,h4⟩
theorem okL_app {sz h I}:∀ {c1 c2 u1 u2 f1 f2},okL sz h I c1 u1 f1→okL sz h I c2 u2 f2→okL sz h I (c1++c2) (u1++u2) (f1++f2)
 | [],c2,u1,u2,f1,f2,h1,h2=>by simp only[okL] at h1;obtain⟨rfl,rfl⟩:=h1;simpa using h2
 | c::c1,c2,u1,u2,f1,f2,h1,h2=>by
  simp only[okL] at h1
  obtain⟨u,us',f3,f4,rfl,rfl,h3,h4⟩:=h1
  simp only[List.cons_append,okL]
  exact⟨u,us'++u2,f3,f4++f2,rfl,by simp,h3,okL_app h4 h2⟩
theorem okL_splice {sz h I} {cs us f xs vs fx} {off:Nat} (hk:okL sz h I cs us f) (hx:okL sz h I xs vs fx) (hle:off+xs.length≤cs.length):
  ∃ f1,(∀ b,f1.count b≤f.count b+fx.count b)∧okL sz h I (splice cs off xs) (us.take off++vs++us.drop (off+vs.length)) f1:=by
 have hl:=okL_length hk
 have hxl:=okL_length hx
 have e1:cs=cs.take off++((cs.drop off).take xs.length++cs.drop (off+xs.length)):=by
  rw[←List.drop_drop,List.take_append_drop,List.take_append_drop]
 rw[e1] at hk
 obtain⟨u1,u23,f1,f23,rfl,rfl,l1,h1,h23⟩:=okL_split hk
 obtain⟨u2,u3,f2,f3,rfl,rfl,l2,h2,h3⟩:=okL_split h23
 rw[List.length_take] at l1
 rw[List.length_take,List.length_drop] at l2
 have e2:(u1++(u2++u3)).take off=u1:=by rw[List.take_append_of_le_length (by omega),List.take_of_length_le (by omega)]
 have e3:(u1++(u2++u3)).drop (off+vs.length)=u3:=by
  rw[←List.append_assoc,List.drop_append_of_le_length (by rw[List.length_append];omega),List.drop_of_length_le (by rw[List.length_append];omega),List.nil_append]
 refine⟨f1++fx++f3,fun b=>by simp only[List.count_append];omega,?_⟩
 rw[e2,e3]
 exact okL_app (okL_app h1 hx) h3
theorem skL_app {sz h' h}:∀ {c1 c2 d1 d2:List T} {u1 u2 v1 v2:List Value},skL sz h' h c1 d1 u1 v1→c1.length=d1.length→c1.length=u1.length→c1.length=v1.length→skL sz h' h c2 d2 u2 v2→skL sz h' h (c1++c2) (d1++d2) (u1++u2) (v1++v2)
 | [],c2,d1,d2,u1,u2,v1,v2,_,h2,h3,h4,h5=>by
  have:d1=[]:=List.length_eq_zero_iff.1 h2.symm
  have:u1=[]:=List.length_eq_zero_iff.1 h3.symm
  have:v1=[]:=List.length_eq_zero_iff.1 h4.symm
  subst_vars
  simpa using h5
 | c::c1,c2,d1,d2,u1,u2,v1,v2,h1,h2,h3,h4,h5=>by
  simp only[skL] at h1
  obtain⟨d,dt,u,ut,v,vt,rfl,rfl,rfl,g1,g2,g3⟩:=h1
  simp only[List.length_cons,Nat.add_right_cancel_iff] at h2 h3 h4
  simp only[List.cons_append,skL]
  exact⟨d,_,u,_,v,_,rfl,rfl,rfl,g1,g2,skL_app g3 h2 h3 h4 h5⟩
theorem skL_none {sz h' h}:∀ {c1 d1:List T} {u1 v1:List Value},anyOwn c1=false→c1.length=d1.length→c1.length=u1.length→c1.length=v1.length→skL sz h' h c1 d1 u1 v1
 | [],d1,u1,v1,_,_,_,_=>by simp[skL]
 | c::c1,[],u1,v1,_,h2,_,_=>by simp at h2
 | c::c1,d::d1,[],v1,_,_,h3,_=>by simp at h3
 | c::c1,d::d1,u::u1,[],_,_,_,h4=>by simp at h4
 | c::c1,d::d1,u::u1,v::v1,h1,h2,h3,h4=>by
  simp only[anyOwn,Bool.or_eq_false_iff] at h1
  simp only[List.length_cons,Nat.add_right_cancel_iff] at h2 h3 h4
  simp only[skL]
  exact⟨d,d1,u,u1,v,v1,rfl,rfl,rfl,fun h=>by rw[h1.1] at h;simp at h,skV_of_not h1.1,skL_none h1.2 h2 h3 h4⟩
theorem skL_splice {sz h h' I} {cs us f xs vs} {off:Nat} (hk:okL sz h I cs us f) (ha:∀ b,b∈f→h'[b]?=h[b]?) (hx:anyOwn xs=false) (hv:vs.length=xs.length) (hle:off+xs.length≤cs.length):
  skL sz h' h (splice cs off xs) cs (us.take off++vs++us.drop (off+vs.length)) us:=by
 have hl:=okL_length hk
 have e1:cs=cs.take off++((cs.drop off).take xs.length++cs.drop (off+xs.length)):=by
  rw[←List.drop_drop,List.take_append_drop,List.take_append_drop]
 have hk2:=hk
 rw[e1] at hk2
 obtain⟨u1,u23,f1,f23,rfl,rfl,l1,h1,h23⟩:=okL_split hk2
 obtain⟨u2,u3,f2,f3,rfl,rfl,l2,h2,h3⟩:=okL_split h23
 have hl1:u1.length=off:=by rw[List.length_take] at l1;omega
 have hl2:u2.length=xs.length:=by rw[List.length_take,List.length_drop] at l2;omega
 have e2:(u1++(u2++u3)).take off=u1:=by rw[List.take_append_of_le_length (by omega),List.take_of_length_le (by omega)]
 have e3:(u1++(u2++u3)).drop (off+vs.length)=u3:=by
  rw[←List.append_assoc,List.drop_append_of_le_length (by rw[List.length_append];omega),List.drop_of_length_le (by rw[List.length_append];omega),List.nil_append]
 rw[e2,e3]
 have key:=skL_app (h':=h') (h:=h) (sz:=sz) (skL_refl (fun b hb=>ha b (by simp[hb])) h1) rfl l1.symm l1.symm
  (skL_app (skL_none (c1:=xs) (d1:=(cs.drop off).take xs.length) (u1:=vs) (v1:=u2) hx (by rw[List.length_take,List.length_drop];omega) hv.symm hl2.symm) (by rw[List.length_take,List.length_drop];omega) hv.symm hl2.symm
   (skL_refl (fun b hb=>ha b (by simp[hb])) h3))
 have e4:splice cs off xs=cs.take off++(xs++cs.drop (off+xs.length)):=by unfold splice;rw[List.append_assoc]
 rw[e4,List.append_assoc]
 have e5:skL sz h' h (cs.take off++(xs++cs.drop (off+xs.length))) cs (u1++(vs++u3)) (u1++(u2++u3))=skL sz h' h (cs.take off++(xs++cs.drop (off+xs.length))) (cs.take off++((cs.drop off).take xs.length++cs.drop (off+xs.length))) (u1++(vs++u3)) (u1++(u2++u3)):=by
  rw[←e1]
 rw[e5]
 exact key
theorem setRow_ok {sz z} {tick d b:Nat} {pre post:List Value} {el:TypeId} {fz:Nat×Nat}:∀ {xs:List T} {vs:List Value} {f:List Nat} {rt gh w FS X off ro},HRel sz z rt gh w FS (f++X)→okL sz w.heap (Inow z w (FS++(f++X))) xs vs f→
  lk rt d=some ro→(gh d).blk=some ⟨b,pre,post,el,fz⟩→off+xs.length≤ro.cells.length→(anyOwn xs=true→ro.ver≤tick)→
  ∃ gh' FS',HRel sz z (setCells tick rt (setRow d off xs)) gh' (stores w b (pre.length+off) vs) FS' X∧
   Keeps ⟨sz,w.heap,Inow z w (FS++(f++X)),rt,gh⟩ ⟨sz,(stores w b (pre.length+off) vs).heap,Inow z (stores w b (pre.length+off) vs) (FS'++X),setCells tick rt (setRow d off xs),gh'⟩ (Stm tick rt)
 | [],vs,f,rt,gh,w,FS,X,off,ro,r,hk,hl,hb,hle,ha=>by
  simp only[okL] at hk
  obtain⟨rfl,rfl⟩:=hk
  exact⟨gh,FS,r,r.keeps_refl _ fun b hb=>hb⟩
 | x::xs,vs,f,rt,gh,w,FS,X,off,ro,r,hk,hl,hb,hle,ha=>by
  simp only[okL] at hk
  obtain⟨v,vs',f1,f2,rfl,rfl,h1,h2⟩:=hk
  simp only[List.length_cons] at hle
  have hr:HRel sz z rt gh w FS (f1++(f2++X))∧∀ b,Inow z w (FS++((f1++f2)++X)) b↔Inow z w (FS++(f1++(f2++X))) b:=r.perm fun y=>by simp only[List.count_append];omega
  obtain⟨r1,hI⟩:=hr
  have hc:ro.cells[off]?=some ro.cells[off]:=by
   have:off<ro.cells.length:=by omega
   simp[this]
  obtain⟨FS1,arr,q1,q2,q3,q4,q5⟩:=r1.set_top (tick:=tick) (hv:=if isOwn x then nxt tick ro else ro.hver) (t':=x) (v:=v) hl hb hc (okV_agree ⟨fun b hb=>⟨(hI b).1 hb,rfl⟩,fun b _=>rfl⟩ h1) (by
   cases hx:isOwn x with
   | true=>exact .inr rfl
   | false=>exact .inl ⟨rfl,rfl⟩)
  have hrt:setCell tick rt ⟨d,off,x,isOwn x⟩=up rt d { ro with cells:=ro.cells.set off x,hver:=if isOwn x then nxt tick ro else ro.hver }:=by
   unfold setCell;simp only[hl]
  rw[←hrt] at q4 q5
  have hbF:b∈FS:=by
   obtain⟨f0,g1,g2⟩:=okRts_get r.roots hl
   unfold okRoot at g1
   rw[hb] at g1
   obtain⟨_,fs',_,rfl,_⟩:=g1
   exact g2 b (by simp)
  have hbf:∀ y,y∈f2→y≠b:=fun y hy he=>by
   subst he
   have:=r.uniq y
   have h3:=List.count_pos_iff.2 hy
   have h4:=List.count_pos_iff.2 hbF
   simp only[List.count_append] at this
   omega
  have hk2:okL sz (w.setCell ⟨b,pre.length+off,none⟩ v).heap (Inow z (w.setCell ⟨b,pre.length+off,none⟩ v) (FS1++(f2++X))) xs vs' f2:=
   okL_agree ⟨fun y hy=>q5.old y ((hI y).1 hy),fun y hy=>heap_setCell_ne (hbf y hy)⟩ h2
  have hl2:lk (setCell tick rt ⟨d,off,x,isOwn x⟩) d=some { ro with cells:=ro.cells.set off x,hver:=if isOwn x then nxt tick ro else ro.hver }:=by rw[hrt,lk_up_self]
  obtain⟨gh',FS',m1,m2⟩:=setRow_ok (b:=b) (pre:=pre) (post:=post) (el:=el) (fz:=fz) (off:=off+1) q4 hk2 hl2 (by simp[gset]) (by show off+1+xs.length≤(ro.cells.set off x).length;rw[List.length_set];omega) (fun h=>ha (by simp[anyOwn,h]))
  refine⟨gh',FS',m1,?_⟩
  have k0:Keeps ⟨sz,w.heap,Inow z w (FS++((f1++f2)++X)),rt,gh⟩ ⟨sz,w.heap,Inow z w (FS++(f1++(f2++X))),rt,gh⟩ (Stm tick rt):=r.keeps_refl _ fun b hb=>(hI b).1 hb
  exact (k0.trans q5 fun _ _ h=>h).trans m2 fun a b h=>Stm_set a b h
theorem rdCells_len {rt:List (Nat×Root)} {d ver off n:Nat} {cs:List T} (h:(rdCells d ver off n).run rt=some cs) (hn:0<n):∃ r,lk rt d=some r∧r.ver=ver∧off+n≤r.cells.length:=by
 obtain⟨r,h1,h2,h3,_⟩:=rdCells_run h hn
 exact⟨r,h1,h2,h3⟩
theorem setsOk_mem {tick rt}:∀ {ss:List CSet},setsOk tick rt ss=true→∀ s,s∈ss→s.hdr=true→∃ r,lk rt s.d=some r∧r.ver≤tick
 | [],_,s,hs,_=>by simp at hs
 | s0::ss,h,s,hs,hh=>by
  simp only[setsOk,Bool.and_eq_true,Bool.or_eq_true,Bool.not_eq_true'] at h
  obtain⟨h1,h2⟩:=h
  rcases List.mem_cons.1 hs with rfl | hs
  ·rcases h1 with h1 | h1
   ·rw[hh] at h1;simp at h1
   ·split at h1
    ·rename_i r hr
     exact⟨r,hr,by simpa using h1⟩
    ·simp at h1
  ·exact setsOk_mem h2 s hs hh
theorem setsOk_append {tick rt}:∀ {a b:List CSet},setsOk tick rt (a++b)=true→setsOk tick rt b=true
 | [],b,h=>h
 | s::a,b,h=>by
  simp only[List.cons_append,setsOk,Bool.and_eq_true] at h
  exact setsOk_append h.2
theorem setRow_any {d:Nat}:∀ {xs:List T} {off:Nat},anyOwn xs=true→∃ s,s∈setRow d off xs∧s.hdr=true∧s.d=d
 | [],off,h=>by simp[anyOwn] at h
 | x::xs,off,h=>by
  simp only[anyOwn,Bool.or_eq_true] at h
  rcases h with h | h
  ·exact⟨⟨d,off,x,isOwn x⟩,by simp[setRow],h,rfl⟩
  ·obtain⟨s,h1,h2,h3⟩:=setRow_any (d:=d) (off:=off+1) h
   exact⟨s,by simp[setRow,h1],h2,h3⟩
theorem setCell_len {tick rt s d r} (h:lk (setCell tick rt s) d=some r):∃ r0,lk rt d=some r0∧r.cells.length=r0.cells.length:=by
 unfold setCell at h
 cases hs:lk rt s.d with
 | none=>rw[hs] at h;exact⟨r,h,rfl⟩
 | some r1=>
  rw[hs] at h
  by_cases hd:d=s.d
  ·subst hd
   rw[lk_up_self] at h
   simp only[Option.some.injEq] at h;subst h
   exact⟨r1,hs,by simp⟩
  ·rw[lk_up_ne _ _ _ _ hd] at h
   exact⟨r,h,rfl⟩
theorem setCells_len {tick}:∀ {ss rt d r},lk (setCells tick rt ss) d=some r→∃ r0,lk rt d=some r0∧r.cells.length=r0.cells.length
 | [],rt,d,r,h=>⟨r,h,rfl⟩
 | s::ss,rt,d,r,h=>by
  simp only[setCells] at h
  obtain⟨r0,h1,h2⟩:=setCells_len h
  obtain⟨r1,h3,h4⟩:=setCell_len h1
  exact⟨r1,h3,h2.trans h4⟩
theorem graft_descend {g:List T→Option (List T)}:∀ {path:List (Nat×Nat)} {cs cs':List T},graft g cs path=some cs'→∃ c0 c1,descend cs path=some c0∧g c0=some c1
 | [],cs,cs',h=>⟨cs,cs',rfl,h⟩
 | (c,i)::rest,cs,cs',h=>by
  simp only[graft] at h
  split at h
  ·rename_i e es h1
   split at h
   ·rename_i cs1 h2
    split at h
    ·rename_i cs2 h3
     obtain⟨c0,c1,g1,g2⟩:=graft_descend h3
     exact⟨c0,c1,by simp only[descend,h1,h2];exact g1,g2⟩
    ·simp at h
   ·simp at h
  ·simp at h
theorem row_splice {l vs:List Value} {o off len m:Nat} (_hm:o+m≤l.length) (hv:vs.length=len) (hle:off+len≤m):
  l.take (o+off)++vs++l.drop (o+off+len)=l.take o++(((l.drop o).take m).take off++vs++((l.drop o).take m).drop (off+len))++l.drop (o+m):=by
 have e1:l.take (o+off)=l.take o++(l.drop o).take off:=by rw[List.take_add]
 have e2:((l.drop o).take m).take off=(l.drop o).take off:=by rw[List.take_take,Nat.min_eq_left (by omega)]
 have e3:((l.drop o).take m).drop (off+len)++l.drop (o+m)=l.drop (o+off+len):=by
  rw[List.drop_take,List.drop_drop]
  have:l.drop (o+m)=(l.drop (o+(off+len))).drop (m - (off+len)):=by rw[List.drop_drop];congr 1;omega
  rw[this,List.take_append_drop]
  congr 1;omega
 rw[e1,e2]
 simp only[List.append_assoc]
 rw[e3]
section st
variable {E:Env} {z:Zn} {n tick:Nat} {fr:List (Nat×T)} {rt:List (Nat×Root)} {gh:Nat→G} {w:World} {FS:List Nat} {a:Act}
variable {call:FuncId→List Arg→Option Res} {me:FuncId} {d:Nat} {ty0:TypeId} {e:Eff} {o:Oper}
theorem run_storeAt {ty:TypeId} {i:TInfo} {v:Value} {b o':Nat} {arr:Array Value} {el:TypeId} {fz:Nat×Nat} (ti:TOk E ty i) (hs:v.cells.size=i.size) (hb:w.heap[b]?=some (.cells arr el fz))
  (hfit:o'+i.size≤arr.size) (hfz:fzFree fz arr.size) (hone:∀ u,u∈v.cells.toList→oneVal u=true):
  (Instr.storeAt ty (.pointer (some ⟨b,o',none⟩)) v).run E.P w=.ok () (stores w b o' v.cells.toList):=by
 have h1:=run_storeCells_ok (P:=E.P) (vs:=v.cells.toList) (i:=0) (o:=o') hb (by rw[Array.length_toList];omega) hfz hone
 simp only[Instr.storeAt,Instr.sureAddr,storeVar,Sem.run_bind,Sem.run_pure,Result.andThen_ok,ti.size,hs]
 simpa using h1
def DoneP (Q:(Nat→G)→Prop) (E:Env) (z:Zn) (tick:Nat) (rt rt':List (Nat×Root)) (gh:Nat→G) (w:World) (FS:List Nat) (t:T) (u:Value) (w':World):Prop:=
 ∃ gh' FS',Q gh'∧HRel (szOf E) z rt' gh' w' FS' []∧
  Keeps ⟨szOf E,w.heap,Inow z w (FS++[]),rt,gh⟩ ⟨szOf E,w'.heap,Inow z w' (FS'++[]),rt',gh'⟩ (Stm tick rt)∧
  okX ⟨szOf E,w'.heap,Inow z w' (FS'++[]),rt',gh'⟩ t u∧stX (Stm tick rt') t
def Stands (fr:List (Nat×T)) (p:Operand) (gh gh':Nat→G):Prop:=∀ d ver q rest off,St.val fr p=some (.ptr d ver (q::rest) off)→gh' d=gh d
theorem op_storeP {ty:TypeId} {p x:Operand} (ht:TiOk E) (h:Here E z n tick fr rt gh w FS a) (ho:o.op=.store ty p x) (hd:EffOk tick rt d e)
  (he:(evOp E call me (St.val fr) tick d ty0 (.store ty p x)).run rt=some e):
  ∃ w',(execOp a.eval o).run E.P w=.ok .skip w'∧DoneP (Stands fr p gh) E z tick rt (rtOf tick rt d e) gh w FS e.val undef w':=by
 simp only[evOp] at he
 obtain⟨tp,h1,he1⟩:=run_bind he
 obtain⟨t,h2,he2⟩:=run_bind he1
 obtain⟨i,h3,he3⟩:=run_bind he2
 obtain⟨⟨xs,ss⟩,h4,he4⟩:=run_bind he3
 clear he he1 he2 he3
 obtain⟨kp1,kp2⟩:=h.frame.val (run_of h1)
 obtain⟨kx1,kx2⟩:=h.frame.val (run_of h2)
 have ti:=ht _ _ (run_of h3)
 have hp0:=run_of h1
 clear h1
 split at he4
 ·rename_i hlen
  dsimp only at hlen
  split at he4
  ·rename_i d' ver path off
   obtain⟨s,h5,he5⟩:=run_bind he4
   simp only[Rd.run,Option.some.injEq] at he5
   subst he5
   obtain⟨a1,a2,a3⟩:=setsApart_append hd.apart
   obtain⟨FS1,f,r1,k1,o1,one1⟩:=inline_partR h kx1 kx2 h4 a1
   have hp:Pres (places ss) rt (setCells tick rt ss):=by
    obtain⟨p1,p2⟩:=part_cells (zero:=i.zero) kx1 kx2 (fun hh=>inlineR_dead (hh▸h4))
    obtain⟨FS',f',L,_,_⟩:=inlineR_ok (tick:=tick) h.heap h4 a1 p1 p2
    simpa using L.pres
   have hvl:(a.eval x).cells.size=i.size:=by have:=okL_length o1;rw[Array.length_toList] at this;omega
   obtain⟨⟨ad,hu⟩,kp⟩:=(k1.x kp2 kp1)
   have hsets:setsOk tick rt s=true:=setsOk_append hd.sets
   have fin:∀ {gh' FS' w'},Stands fr p gh gh'→(Instr.storeAt ty (a.eval p) (a.eval x)).run E.P w=.ok () w'→HRel (szOf E) z (setCells tick (setCells tick rt ss) s) gh' w' FS' []→
     Keeps ⟨szOf E,w.heap,Inow z w (FS1++(f++[])),setCells tick rt ss,gh⟩ ⟨szOf E,w'.heap,Inow z w' (FS'++[]),setCells tick (setCells tick rt ss) s,gh'⟩ (Stm tick (setCells tick rt ss))→
     ∃ w',(execOp a.eval o).run E.P w=.ok .skip w'∧DoneP (Stands fr p gh) E z tick rt (rtOf tick rt d { val:=.v undef,sets:=ss++s }) gh w FS (.v undef) undef w':=by
    intro gh' FS' w' hst hrun hr hk
    have hrun2:(execOp a.eval o).run E.P w=.ok .skip w':=by
     simp only[execOp,ho,Sem.run_bind,hrun,Result.andThen_ok]
     rfl
    refine⟨w',hrun2,?_⟩
    rw[rtOf_eq]
    refine⟨gh',FS',hst,?_,?_,okX_v.2 rfl,trivial⟩
    ·show HRel _ _ (setCells tick rt (ss++s)) _ _ _ _
     rw[setCells_append];exact hr
    ·show Keeps _ ⟨_,_,_,setCells tick rt (ss++s),_⟩ _
     rw[setCells_append];exact k1.trans hk fun a b h=>Stm_sets a b h
   unfold wrRow at h5
   split at h5
   ·obtain⟨cs0,h6,h7⟩:=run_bind h5
    simp only[Rd.run,Option.some.injEq] at h7;subst h7
    have h6:(rdCells d' ver off xs.length).run rt=some cs0:=h6
    by_cases hz:xs.length=0
    ·have hx0:xs=[]:=List.length_eq_zero_iff.1 hz
     subst hx0
     have hv0:(a.eval x).cells.toList=[]:=by simp only[okL] at o1;exact o1.1
     obtain⟨r2,hI⟩:=drop_floats r1
     refine fin (gh':=gh) (FS':=FS1) (w':=w) (fun _ _ _ _ _ _=>rfl) ?_ r2 (r1.keeps_refl _ hI)
     rw[hu]
     simp only[Instr.storeAt,Instr.sureAddr,storeVar,Sem.run_bind,Sem.run_pure,Result.andThen_ok,ti.size,hvl,hv0]
     simp[storeCells]
    ·obtain⟨ro,g1,g2,g3⟩:=rdCells_len h6 (by omega)
     obtain⟨ro1,g4,g5,g6,g7,g8⟩:=hp d' ro g1
     obtain⟨⟨b,pre,post,el,fz⟩,hb,hub⟩:=kp ro1 g4 (by rw[g5];exact g2)
     have hlen1:ro1.cells.length=ro.cells.length:=by
      obtain⟨r0,y1,y2⟩:=setCells_len g4
      rw[g1] at y1
      simp only[Option.some.injEq] at y1
      rw[y2,y1]
     obtain⟨gh',FS',m1,m2⟩:=setRow_ok (off:=off) r1 o1 g4 hb (by omega) (fun ha=>by
      obtain⟨s,q1,q2,q3⟩:=setRow_any (d:=d') (off:=off) ha
      obtain⟨r0,q4,q5⟩:=setsOk_mem hsets s q1 q2
      rw[q3,g1] at q4
      simp only[Option.some.injEq] at q4
      rw[g5,q4];exact q5)
     obtain⟨f0,w1,w2⟩:=okRts_get r1.roots g4
     unfold okRoot at w1
     rw[hb] at w1
     obtain⟨_,fs',arr,_,v1,v2,v3,v4⟩:=w1
     simp only at v1 v2 v3 hub
     have hasz:arr.size=pre.length+ro1.cells.length+post.length:=by have h8:=congrArg List.length v3;have h9:=okL_length v4;simp at h8;omega
     have hlx:xs.length=i.size:=hlen
     refine fin (gh':=gh') (FS':=FS') (fun d1 v1 q1 r1 o1 hx=>by rw[hp0] at hx;simp at hx) ?_ m1 m2
     rw[hub]
     exact run_storeAt ti hvl v1 (by omega) v2 one1
   ·rename_i c0 i0 rest
    split at h5
    ·obtain⟨ro,t0,g1,g2,g3,g4⟩:=run_cell h5
     split at g4
     ·rename_i t' hgr
      simp only[Rd.run,Option.some.injEq] at g4;subst g4
      obtain⟨cs,cs1,d1,d2⟩:=graft_descend hgr
      split at d2
      ·rename_i hle
       simp only[Option.some.injEq] at d2;subst d2
       have hle:off+xs.length≤cs.length:=hle
       have hlx:xs.length=i.size:=hlen
       obtain⟨ro1,p4,p5,p6,p7,p8⟩:=hp d' ro g1
       have hc1:ro1.cells[c0]?=some t0:=by
        rw[p8 c0 (a3 ⟨d',c0,t',anyOwn xs⟩ (by simp))];exact g3
       obtain⟨u0,b,o',arr,el,fz,fcs,m1,m2,m3,m4,m5,m6,m6',m7,m8,m9⟩:=r1.locate p4 hc1 d1
       have hub:=kp ro1 p4 (by rw[p6];exact g2) cs _ b o' (m9 _)
       have hvl2:(a.eval x).cells.toList.length=xs.length:=okL_length o1
       obtain⟨arr',y1,y2,y3⟩:=stores_eq (vs:=(a.eval x).cells.toList) (o:=o'+off) m3 (by omega)
       obtain⟨s1,s2,s3,s4⟩:=stores_same (b:=b) (vs:=(a.eval x).cells.toList) (w:=w) (o:=o'+off)
       have hal:arr.toList.length=arr.size:=Array.length_toList
       have hu2:∀ y,y∈f→y≠b:=fun y hy he=>by
        subst he
        have:=r1.uniq y
        have h3:=List.count_pos_iff.2 hy
        have h4:=List.count_pos_iff.2 m6
        simp only[List.count_append] at this
        omega
       have hnb:∀ y,Inow z w (FS1++(f++[])) y→y≠b:=fun y hy he=>by subst he;exact (r1.imm hy).2 (by simp[m6])
       have hl0:((arr.toList.drop o').take cs.length).length=cs.length:=okL_length m7
       have hany:anyOwn xs=true→ro1.ver≤tick:=fun ha=>by
        obtain⟨r0,q4,q5⟩:=setsOk_mem hsets ⟨d',c0,t',anyOwn xs⟩ (by simp) ha
        rw[g1] at q4
        simp only[Option.some.injEq] at q4
        rw[p5,q4];exact q5
       obtain⟨FS',X',hX,w1,w2⟩:=HRel.nested (tick:=tick) (hv:=if anyOwn xs then nxt tick ro1 else ro1.hver) (Ex:=fun X'=>X'=[]) (cs1:=splice cs off xs) (vs1:=((arr.toList.drop o').take cs.length).take off++(a.eval x).cells.toList++((arr.toList.drop o').take cs.length).drop (off+(a.eval x).cells.toList.length)) (arr':=arr')
        (w':=stores w b (o'+off) (a.eval x).cells.toList) r1 p4 hc1 m1 d1 m2 m3 (by rw[if_pos hle]) (by unfold splice;simp only[List.length_append,List.length_take,List.length_drop];omega) hgr s1 s2 s3 s4 (fun y hy=>stores_ne hy) y1 y2
        (by rw[y3,hvl2];exact row_splice (by omega) hvl2 hle) (by simp only[List.length_append,List.length_take,List.length_drop];omega)
        (fun fc hfc hsub hbF hbf=>by
         obtain⟨f1,c1,c2⟩:=okL_splice hfc o1 hle
         refine⟨f1,[],rfl,fun y=>by have:=c1 y;simp only[List.count_append,List.count_nil];omega,okL_agree ⟨fun y hy=>⟨hy,stores_ne (hnb y hy)⟩,fun y hy=>stores_ne fun he=>?_⟩ c2⟩
         subst he
         have h1:=c1 y
         have h2:=List.count_pos_iff.2 hy
         have h3:fc.count y=0:=List.count_eq_zero.2 hbf
         have h4:f.count y=0:=List.count_eq_zero.2 fun hm=>hu2 y hm rfl
         omega)
        (by
         cases hxx:anyOwn xs with
         | true=>exact .inr rfl
         | false=>exact .inl ⟨rfl,skL_splice m7 (fun y hy=>stores_ne fun he=>by subst he;exact m6' hy) hxx hvl2 hle⟩)
       subst hX
       have hrt:setCells tick (setCells tick rt ss) [⟨d',c0,t',anyOwn xs⟩]=up (setCells tick rt ss) d' { ro1 with cells:=ro1.cells.set c0 t',hver:=if anyOwn xs then nxt tick ro1 else ro1.hver }:=by
        simp only[setCells,setCell,p4]
       refine fin (gh':=gh) (FS':=FS') (w':=stores w b (o'+off) (a.eval x).cells.toList) (fun _ _ _ _ _ _=>rfl) ?_ (by rw[hrt];exact w1) (by rw[hrt];exact w2)
       rw[hub]
       exact run_storeAt ti hvl m3 (by omega) m4 one1
      ·simp at d2
     ·simp[Rd.run] at g4
    ·simp[Rd.run] at h5
  ·simp[Rd.run] at he4
 ·simp[Rd.run] at he4
theorem op_store {ty:TypeId} {p x:Operand} (ht:TiOk E) (h:Here E z n tick fr rt gh w FS a) (ho:o.op=.store ty p x) (hd:EffOk tick rt d e)
  (he:(evOp E call me (St.val fr) tick d ty0 (.store ty p x)).run rt=some e):
  Says E z tick rt gh w FS d e (execOp a.eval o):=by
 obtain⟨w',h1,gh',FS',_,h2⟩:=op_storeP ht h ho hd he
 unfold Says
 rw[h1]
 exact⟨gh',FS',h2⟩
end st
mutual
theorem okV_clean {sz h I I'}:∀ {t u f},clean t=true→okV sz h I t u f→okV sz h I' t u f
 | .v x,u,f,_,hk=>by simpa only[okV] using hk
 | .agg cs,u,f,hc,hk=>by
  simp only[okV] at hk ⊢
  simp only[clean] at hc
  obtain⟨us,h1,h2⟩:=hk
  exact⟨us,h1,okL_clean hc h2⟩
 | .tup cs,u,f,hc,hk=>by
  simp only[okV] at hk ⊢
  simp only[clean] at hc
  obtain⟨us,h1,h2⟩:=hk
  exact⟨us,h1,okL_clean hc h2⟩
 | .own e es,u,f,hc,hk=>by
  simp only[okV] at hk ⊢
  simp only[clean] at hc
  rcases hk with hk | ⟨b,o,cap,arr,el,fz,fs',h1,h2,h3,h4,h5,rfl,h7⟩
  ·exact .inl hk
  ·exact .inr ⟨b,o,cap,arr,el,fz,fs',h1,h2,h3,h4,h5,rfl,okEs_clean hc h7⟩
 | .sl _ _,u,f,hc,_=>by simp[clean] at hc
 | .ref ..,u,f,hc,_=>by simp[clean] at hc
 | .ptr ..,u,f,hc,_=>by simp[clean] at hc
 | .bx ..,u,f,hc,_=>by simp[clean] at hc
 | .ipt _,u,f,hc,_=>by simp[clean] at hc
 | .clo _ _,u,f,hc,_=>by simp[clean] at hc
 | .dead,u,f,hc,_=>by simp[clean] at hc
 | .hdr n,u,f,hc,hk=>by simpa only[okV] using hk
theorem okL_clean {sz h I I'}:∀ {cs us f},cleanL cs=true→okL sz h I cs us f→okL sz h I' cs us f
 | [],us,f,_,hk=>by simpa only[okL] using hk
 | c::cs,us,f,hc,hk=>by
  simp only[okL] at hk ⊢
  simp only[cleanL,Bool.and_eq_true] at hc
  obtain⟨u,us',f1,f2,h1,h2,h3,h4⟩:=hk
  exact⟨u,us',f1,f2,h1,h2,okV_clean hc.1 h3,okL_clean hc.2 h4⟩
theorem okEs_clean {sz h I I'} {s:Nat}:∀ {es l f},cleanEs es=true→okEs sz h I s es l f→okEs sz h I' s es l f
 | [],l,f,_,hk=>by simpa only[okEs] using hk
 | c::es,l,f,hc,hk=>by
  simp only[okEs] at hk ⊢
  simp only[cleanEs,Bool.and_eq_true] at hc
  obtain⟨f1,f2,h1,h2,h3,h4⟩:=hk
  exact⟨f1,f2,h1,h2,okL_clean hc.1 h3,okEs_clean hc.2 h4⟩
end
def okArg (sz:TypeId→Nat) (h:Array Obj) (I:Nat→Prop) (i:Nat) (a:Arg) (u:Value) (f:List Nat):Prop:=
  match a.root with
  | none=>okV sz h I a.t u []∧f=[]
  | some r=>∃ g,okRoot sz h I g r f∧r.ver=0∧r.hver≤1∧
      ((r.real = true ∧ a.t = .ptr i 0 [] 0 ∧ ∃ b, g.blk = some b ∧ u = .pointer (some ⟨b.b, b.pre.length, none⟩)) ∨
       (r.real=false∧∃ e es,r.cells=[.own e es]∧a.t=.ref i 0 [] 0 es.length∧g=⟨none,[u]⟩)∨
       (r.real=false∧∃ cs us,r.cells=cs.map bare∧a.t=.agg (viewFrom i 0 [] 0 cs)∧u=.agg us.toArray∧g=⟨none,us⟩∧okL sz h I (cs.map vw) us []))
def okArgs (sz:TypeId→Nat) (h:Array Obj) (I:Nat→Prop):Nat→List Arg→List Value→List Nat→Prop
 | _,[],us,f=>us=[]∧f=[]
 | i,a::as,us,f=>∃ u us' f1 f2,us=u::us'∧f=f1++f2∧okArg sz h I i a u f1∧okArgs sz h I (i+1) as us' f2
def okOuts (sz:TypeId→Nat) (h0 h:Array Obj) (I:Nat→Prop) (args:List Arg) (us:List Value):List (Nat×List T)→List Nat→Prop
 | [],f=>f=[]
 | (i,cs)::r,f=>∃ B f1 f2 arr vals,f=(Blk.b B::f1)++f2∧us[i]?=some (.pointer (some ⟨B.b,B.pre.length,none⟩))∧h[B.b]?=some (.cells arr B.el B.fz)∧fzFree B.fz arr.size∧arr.toList=B.pre++vals++B.post∧okL sz h I cs vals f1∧
   (∃ arr0 vals0,h0[B.b]?=some (.cells arr0 B.el B.fz)∧arr0.toList=B.pre++vals0++B.post∧∀ r0,(args[i]?).bind (·.root)=some r0→vals0.length=r0.cells.length∧(r0.hver=0→skL sz h h0 cs r0.cells vals vals0))∧okOuts sz h0 h I args us r f2
structure Back (sz:TypeId→Nat) (z:Zn) (args:List Arg) (us:List Value) (r:Res) (u:Value) (w':World):Prop where
 fr:Fr z w'
 ok:∃ f fo,okV sz w'.heap (Inow z w' (f++fo)) r.ret u f∧okOuts sz z.w0.heap w'.heap (Inow z w' (f++fo)) args us r.outs fo∧Uniq (f++fo)∧∀ b,b∈f++fo→b<w'.heap.size∧(b∈z.F0∨z.w0.heap.size≤b)
 clean:r.clean=true→TM.clean r.ret=true
structure BackL (sz:TypeId→Nat) (z:Zn) (vs:List Value) (row row':List T) (w':World):Prop where
 fr:Fr z w'
 ok:∃ f,okL sz w'.heap (Inow z w' f) row' vs f∧Uniq f∧∀ b,b∈f→b<w'.heap.size∧(b∈z.F0∨z.w0.heap.size≤b)
 sk:skL sz w'.heap z.w0.heap row' row vs vs
inductive LentArg:Arg→List T→Value→List Value→Prop
 | one (e:TypeId) (es:List (List T)) (u:Value):LentArg ⟨.ref 0 0 [] 0 es.length,some ⟨0,0,false,[.own e es]⟩⟩ [.own e es] u [u]
 | row (cs:List T) (vs:List Value):LentArg ⟨.agg (viewFrom 0 0 [] 0 cs),some ⟨0,0,false,cs.map bare⟩⟩ cs (.agg vs.toArray) vs
def lentCell:T→Bool
 | .own ..=>true
 | .v _=>true
 | _=>false
def ViewOk (E:Env) (f:FuncId) (v:View):Prop:=szOf E v.elem=1∧∀ (w:World) (b o n cap k:Nat) (H1 H2:Value) (vs:List Value) (u:Value),vs.length=5→k<n→w.cell? ⟨b,o+k,none⟩=some u→
 Calls E.P f #[.agg #[.slice (some ⟨b,o,none⟩) n cap,H1,H2],.agg (.int .i64 k::vs).toArray] w fun
  | .returned u',w'=>u'=u∧∀ z:Zn,z.w0=w→z.F0=[]→Fr z w'
  | _,_=>False
structure Sound (E:Env) (f:FuncId) (args:List Arg) (r:Res):Prop where
 cells:lends (E.mode f)=true→∀ i row',(i,row')∈r.outs→row'.all lentCell=true
 old:lends (E.mode f)=false→∀ (z:Zn) (us:List Value),Uniq z.F0→(∀ b,b∈z.F0→b<z.w0.heap.size)→okArgs (szOf E) z.w0.heap z.I0 0 args us z.F0→
  Calls E.P f us.toArray z.w0 fun
   | .returned u,w'=>Back (szOf E) z args us r u w'
   | _,_=>False
 lend:lends (E.mode f)=true→∀ (z:Zn) (a:Arg) (ys:List Value) (row:List T) (u:Value) (vs:List Value),args=a::ys.map valArg→LentArg a row u vs→row.all lentCell=true→
  Uniq z.F0→(∀ b,b∈z.F0→b<z.w0.heap.size)→okL (szOf E) z.w0.heap z.I0 row vs z.F0→
  ∃ x row',r.ret=.v x∧r.outs=[(0,row')]∧Calls E.P f (u::ys).toArray z.w0 fun
   | .returned u',w'=>u'=x∧BackL (szOf E) z vs row row' w'
   | _,_=>False
 view:∀ v,E.view f=some v→ViewOk E f v
theorem seal0_ok {sz z rt gh w FS X} {t t':T} {ds:List Nat} {u:Value} (r:HRel sz z rt gh w FS X) (hk:okX0 ⟨sz,w.heap,Inow z w (FS++X),rt,gh⟩ t u) (h:(seal0 t).run rt=some (t',ds)):
  okV sz w.heap (fun b=>Inow z w (FS++X) b∨(ds≠[]∧b∈FS)) t' u []:=by
 have up:∀ {t},okV sz w.heap (Inow z w (FS++X)) t u []→okV sz w.heap (fun b=>Inow z w (FS++X) b∨(ds≠[]∧b∈FS)) t u []:=fun hv=>
  okV_agree ⟨fun b hb=>⟨.inl hb,rfl⟩,fun b hb=>by simp at hb⟩ hv
 unfold seal0 at h
 split at h
 ·rename_i d ver path c n
  obtain⟨⟨e,es⟩,g1,g2⟩:=run_bind h
  simp only[Rd.run,Option.some.injEq,Prod.mk.injEq] at g2
  obtain⟨rfl,rfl⟩:=g2
  obtain⟨f,q1,q2,q3⟩:=r.content hk.2 g1
  have:=okV_seal (I':=fun b=>Inow z w (FS++X) b∨(([d]:List Nat)≠[]∧b∈FS)) (fun b hb=>.inl hb) (fun b hb=>.inr ⟨by simp,q3 b hb⟩) q1
  simpa only[seal_] using this
 ·rename_i e es
  simp only[Rd.run,Option.some.injEq,Prod.mk.injEq] at h
  obtain⟨rfl,rfl⟩:=h
  have hk':okV sz w.heap (Inow z w (FS++X)) (.own e es) u []:=hk
  have:=okV_seal (I':=fun b=>Inow z w (FS++X) b∨(([]:List Nat)≠[]∧b∈FS)) (fun b hb=>.inl hb) (fun b hb=>by simp at hb) hk'
  simpa only[seal_] using this
 all_goals first
  | (simp only[Rd.run,Option.some.injEq,Prod.mk.injEq] at h;obtain⟨rfl,rfl⟩:=h;exact up hk)
  | simp[Rd.run] at h
theorem seal0_okV {sz h I} {FS:List Nat} {rt:List (Nat×Root)} {t t':T} {ds:List Nat} {u:Value} {f:List Nat} (hk:okV sz h I t u f) (hs:∀ b,b∈f→b∈FS) (he:(seal0 t).run rt=some (t',ds)):
  okV sz h (fun b=>I b∨b∈FS) t' u []:=by
 have up:f=[]→okV sz h (fun b=>I b∨b∈FS) t u []:=fun hf=>by
  subst hf
  exact okV_agree ⟨fun b hb=>⟨.inl hb,rfl⟩,fun b hb=>by simp at hb⟩ hk
 unfold seal0 at he
 split at he
 ·simp[okV] at hk
 ·rename_i e es
  simp only[Rd.run,Option.some.injEq,Prod.mk.injEq] at he
  obtain⟨rfl,rfl⟩:=he
  have:=okV_seal (I':=fun b=>I b∨b∈FS) (fun b hb=>.inl hb) (fun b hb=>.inr (hs b hb)) hk
  simpa only[seal_] using this
 all_goals first
  | (simp only[Rd.run,Option.some.injEq,Prod.mk.injEq] at he;obtain⟨rfl,rfl⟩:=he;exact up (okV_cell hk rfl rfl))
  | simp[Rd.run] at he
theorem sealCells_okL {sz h I} {FS:List Nat} {rt:List (Nat×Root)}:∀ {ts ts':List T} {ds:List Nat} {us:List Value} {f:List Nat},okL sz h I ts us f→(∀ b,b∈f→b∈FS)→(sealCells seal0 ts).run rt=some (ts',ds)→
  okL sz h (fun b=>I b∨b∈FS) ts' us []
 | [],ts',ds,us,f,hk,_,he=>by
  simp only[sealCells,Rd.run,Option.some.injEq,Prod.mk.injEq] at he
  obtain⟨rfl,rfl⟩:=he
  simp only[okL] at hk ⊢
  exact⟨hk.1,trivial⟩
 | t::ts,ts',ds,us,f,hk,hs,he=>by
  simp only[sealCells] at he
  obtain⟨⟨t1,d1⟩,h1,h2⟩:=run_bind he
  obtain⟨⟨ts1,d2⟩,h3,h4⟩:=run_bind h2
  simp only[Rd.run,Option.some.injEq,Prod.mk.injEq] at h4
  obtain⟨rfl,rfl⟩:=h4
  simp only[okL] at hk ⊢
  obtain⟨u,us',f1,f2,rfl,rfl,g1,g2⟩:=hk
  exact⟨u,us',[],[],rfl,rfl,seal0_okV g1 (fun b hb=>hs b (by simp[hb])) h1,sealCells_okL g2 (fun b hb=>hs b (by simp[hb])) h3⟩
def Ileans (I:Nat→Prop) (FS ds:List Nat) (b:Nat):Prop:=I b∨(ds≠[]∧b∈FS)
theorem okV_leans {sz h I FS ds ds' t u} (hk:okV sz h (Ileans I FS ds) t u []) (hs:ds≠[]→ds'≠[]):okV sz h (Ileans I FS ds') t u []:=
 okV_agree ⟨fun b hb=>⟨hb.imp id fun hx=>⟨hs hx.1,hx.2⟩,rfl⟩,fun b hb=>by simp at hb⟩ hk
theorem okL_leans {sz h I FS ds ds' t u} (hk:okL sz h (Ileans I FS ds) t u []) (hs:ds≠[]→ds'≠[]):okL sz h (Ileans I FS ds') t u []:=
 okL_agree ⟨fun b hb=>⟨hb.imp id fun hx=>⟨hs hx.1,hx.2⟩,rfl⟩,fun b hb=>by simp at hb⟩ hk
theorem sealP_ok {sz z rt gh w FS X} {d ver off:Nat} {path:List (Nat×Nat)} {t':T} {ds:List Nat} {u:Value} (r:HRel sz z rt gh w FS X) (hk:okX0 ⟨sz,w.heap,Inow z w (FS++X),rt,gh⟩ (.ptr d ver path off) u) (h:(sealP d ver path off).run rt=some (t',ds)):
  okV sz w.heap (Ileans (Inow z w (FS++X)) FS ds) t' u []:=by
 unfold sealP at h
 ·obtain⟨⟨ad,hu⟩,hp⟩:=hk
  split at h
  ·obtain⟨r0,g1,g2,g3⟩:=run_root h
   split at g3
   ·rename_i hle
    obtain⟨⟨ts,ds'⟩,g4,g5⟩:=run_bind g3
    simp only[Rd.run,Option.some.injEq,Prod.mk.injEq] at g5
    obtain⟨rfl,rfl⟩:=g5
    obtain⟨⟨b,pre,post,el,fz⟩,hb,hub⟩:=hp r0 g1 g2
    obtain⟨f0,w1,w2⟩:=okRts_get r.roots g1
    unfold okRoot at w1
    rw[hb] at w1
    obtain⟨_,fs',arr,rfl,v1,v2,v3,v4⟩:=w1
    simp only at v1 v2 v3 hub
    have hlen:(gh d).vals.length=r0.cells.length:=okL_length v4
    have e1:(r0.cells.take off)++r0.cells.drop off=r0.cells:=List.take_append_drop _ _
    rw[←e1] at v4
    obtain⟨u1,u2,f1,f2,hus,rfl,l1,q1,q2⟩:=okL_split v4
    have hok:=sealCells_okL (FS:=FS) q2 (fun b hb=>w2 b (by simp[hb])) g4
    simp only[okV,true_and]
    refine⟨b,pre.length+off,arr,el,fz,hub,.inr ⟨by simp,w2 b (by simp)⟩,v1,?_⟩
    have e2:arr.toList.drop (pre.length+off)=u2++post:=by
     rw[v3,hus,List.append_assoc,←List.drop_drop,List.drop_left,List.append_assoc,List.drop_append_of_le_length (by rw[l1,List.length_take];omega),List.drop_of_length_le (by rw[l1,List.length_take];omega),List.nil_append]
    rw[e2,←okL_length hok,List.take_append_of_le_length (Nat.le_refl _),List.take_of_length_le (Nat.le_refl _)]
    exact okL_agree ⟨fun b hb=>⟨hb.imp id fun hx=>⟨by simp,hx⟩,rfl⟩,fun b hb=>by simp at hb⟩ hok
   ·simp[Rd.run] at g3
  ·rename_i c0 i rest
   obtain⟨ro,t0,g1,g2,g3,g4⟩:=run_cell h
   split at g4
   ·rename_i cs hd
    split at g4
    ·rename_i hle
     simp only[Rd.run,Option.some.injEq,Prod.mk.injEq] at g4
     obtain⟨rfl,rfl⟩:=g4
     obtain⟨u0,b,o,arr,el,fz,f,m1,m2,m3,m4,m5,m6,m6',m7,m8,m9⟩:=r.locate g1 g3 hd
     have hub:=hp ro g1 g2 cs _ b o (m9 _)
     have e1:(cs.take off)++cs.drop off=cs:=List.take_append_drop _ _
     have hl0:((arr.toList.drop o).take cs.length).length=cs.length:=okL_length m7
     have m7':=m7
     rw[←e1] at m7'
     obtain⟨u1,u2,f1,f2,hus,rfl,l1,q1,q2⟩:=okL_split m7'
     rw[e1] at hus
     have hok:=okL_seal (I':=Ileans (Inow z w (FS++X)) FS [d]) (fun b hb=>.inl hb) (fun b hb=>.inr ⟨by simp,m8 b (by simp[hb])⟩) q2
     simp only[okV,true_and]
     refine⟨b,o+off,arr,el,fz,hub,.inr ⟨by simp,m6⟩,m3,?_⟩
     have hl2:u2.length=cs.length - off:=by have:=okL_length q2;rwa[List.length_drop] at this
     have e2:(arr.toList.drop (o+off)).take (cs.length - off)=u2:=by
      have e0:(u1++u2).drop off=u2:=by
       rw[List.drop_append_of_le_length (by rw[l1,List.length_take];omega),List.drop_of_length_le (by rw[l1,List.length_take];omega),List.nil_append]
      have:=congrArg (List.drop off) hus
      rw[e0,List.drop_take,List.drop_drop] at this
      exact this
     rw[sealL_length,List.length_drop,e2]
     exact hok
    ·simp[Rd.run] at g4
   ·simp[Rd.run] at g4
theorem seal1_ok {sz z rt gh w FS X} {t t':T} {ds:List Nat} {u:Value} (r:HRel sz z rt gh w FS X) (hk:okX0 ⟨sz,w.heap,Inow z w (FS++X),rt,gh⟩ t u) (h:(seal1 t).run rt=some (t',ds)):
  okV sz w.heap (Ileans (Inow z w (FS++X)) FS ds) t' u []:=by
 unfold seal1 at h
 split at h
 ·exact sealP_ok r hk h
 ·rename_i d ver path off
  obtain⟨⟨t1,ds1⟩,h1,h2⟩:=run_bind h
  simp only[Rd.run,Option.some.injEq,Prod.mk.injEq] at h2
  obtain⟨rfl,rfl⟩:=h2
  obtain⟨b,arr,el,fz,u',q1,q2,q3,q4,q5,q6⟩:=hk
  have hv:=sealP_ok r (u:=u') ⟨q5,q6⟩ h1
  simp only[okV,true_and]
  refine⟨b,0,arr,el,fz,q1,.inl q2,q3,?_⟩
  rw[q4]
  exact okL_one.2 hv
 ·exact seal0_ok r hk h
theorem sealCells_ok {sz z rt gh w FS X} (r:HRel sz z rt gh w FS X):∀ {ts ts':List T} {ds:List Nat} {us:List Value},All2 (okX0 ⟨sz,w.heap,Inow z w (FS++X),rt,gh⟩) ts us→(sealCells seal1 ts).run rt=some (ts',ds)→
  okL sz w.heap (Ileans (Inow z w (FS++X)) FS ds) ts' us []
 | [],ts',ds,us,hk,he=>by
  simp only[sealCells,Rd.run,Option.some.injEq,Prod.mk.injEq] at he
  obtain⟨rfl,rfl⟩:=he
  simp only[All2] at hk;subst hk
  simp[okL]
 | t::ts,ts',ds,us,hk,he=>by
  simp only[sealCells] at he
  obtain⟨⟨t1,d1⟩,h1,h2⟩:=run_bind he
  obtain⟨⟨ts1,d2⟩,h3,h4⟩:=run_bind h2
  simp only[Rd.run,Option.some.injEq,Prod.mk.injEq] at h4
  obtain⟨rfl,rfl⟩:=h4
  obtain⟨u,us',rfl,k1,k2⟩:=hk
  simp only[okL]
  exact⟨u,us',[],[],rfl,rfl,okV_leans (seal1_ok r k1 h1) (fun hx hy=>hx (List.append_eq_nil_iff.1 hy).1),okL_leans (sealCells_ok r k2 h3) (fun hx hy=>hx (List.append_eq_nil_iff.1 hy).2)⟩
theorem seal2_ok {sz z rt gh w FS X} {t t':T} {ds:List Nat} {u:Value} (r:HRel sz z rt gh w FS X) (hk:okX ⟨sz,w.heap,Inow z w (FS++X),rt,gh⟩ t u) (h:(seal2 t).run rt=some (t',ds)):
  okV sz w.heap (Ileans (Inow z w (FS++X)) FS ds) t' u []:=by
 unfold seal2 at h
 split at h
 ·obtain⟨⟨ts,ds'⟩,g1,g2⟩:=run_bind h
  simp only[Rd.run,Option.some.injEq,Prod.mk.injEq] at g2
  obtain⟨rfl,rfl⟩:=g2
  obtain⟨us,rfl,k1⟩:=hk
  simp only[okV]
  exact⟨us,rfl,sealCells_ok r k1 g1⟩
 ·obtain⟨⟨ts,ds'⟩,g1,g2⟩:=run_bind h
  simp only[Rd.run,Option.some.injEq,Prod.mk.injEq] at g2
  obtain⟨rfl,rfl⟩:=g2
  obtain⟨us,rfl,k1⟩:=hk
  simp only[okV,true_and]
  exact⟨us,rfl,sealCells_ok r k1 g1⟩
 ·rename_i h1 h2
  have:okX0 ⟨sz,w.heap,Inow z w (FS++X),rt,gh⟩ t u:=by
   cases t<;>first
    | exact hk
    | exact absurd rfl (h1 _)
    | exact absurd rfl (h2 _ _)
    | (simp[seal1,seal0,Rd.run] at h)
  exact seal1_ok r this h
theorem del_mem {α:Type}:∀ {l:List (Nat×α)} {d:Nat} {p:Nat×α},p∈del l d→p∈l∧p.1≠d
 | [],d,p,h=>by simp[del] at h
 | (k,x)::r,d,p,h=>by
  simp only[del] at h
  split at h
  ·exact⟨List.mem_cons_of_mem _ (del_mem h).1,(del_mem h).2⟩
  ·rename_i hk
   rcases List.mem_cons.1 h with rfl | h
   ·exact⟨by simp,hk⟩
   ·exact⟨List.mem_cons_of_mem _ (del_mem h).1,(del_mem h).2⟩
theorem del_srt {α:Type}:∀ {l:List (Nat×α)} {d:Nat},Srt l→Srt (del l d)
 | [],d,_=>by simp[del,Srt]
 | (k,x)::r,d,h=>by
  simp only[del]
  split
  ·exact del_srt h.2
  ·exact⟨fun p hp=>h.1 p (del_mem hp).1,del_srt h.2⟩
theorem lk_del_self {α:Type}:∀ (l:List (Nat×α)) (d:Nat),lk (del l d) d=none
 | [],d=>rfl
 | (k,x)::r,d=>by
  simp only[del]
  split
  ·exact lk_del_self r d
  ·rename_i hk;simp only[lk,if_neg hk];exact lk_del_self r d
theorem lk_del_ne {α:Type}:∀ (l:List (Nat×α)) (d d':Nat),d'≠d→lk (del l d) d'=lk l d'
 | [],d,d',_=>rfl
 | (k,x)::r,d,d',h=>by
  simp only[del]
  split
  ·rename_i hk;subst hk;simp only[lk,if_neg (Ne.symm h)];exact lk_del_ne r k d' h
  ·simp only[lk,lk_del_ne r d d' h]
theorem del_none {α:Type}:∀ {l:List (Nat×α)} {d:Nat},(∀ p,p∈l→p.1≠d)→del l d=l
 | [],d,_=>rfl
 | (k,x)::r,d,h=>by
  simp only[del,if_neg (h (k,x) (by simp))]
  rw[del_none fun p hp=>h p (by simp[hp])]
theorem okRts_del {sz h I gh d ro}:∀ {rt fs},Srt rt→okRts sz h I gh rt fs→lk rt d=some ro→∃ fd rr,Both fs fd rr∧okRoot sz h I (gh d) ro fd∧okRts sz h I gh (del rt d) rr
 | [],fs,_,_,hl=>by simp[lk] at hl
 | (k,y)::rest,fs,hs,hk,hl=>by
  obtain⟨f1,f2,rfl,h1,h2⟩:=hk
  simp only[lk] at hl
  split at hl
  ·rename_i hkd;subst hkd
   simp only[Option.some.injEq] at hl;subst hl
   refine⟨f1,f2,fun x=>by simp,h1,?_⟩
   simp only[del,if_true]
   rw[del_none fun p hp=>by have:=hs.1 p hp;omega]
   exact h2
  ·rename_i hkd
   obtain⟨fd,rr,g1,g2,g3⟩:=okRts_del hs.2 h2 hl
   refine⟨fd,f1++rr,fun x=>by have:=g1 x;simp only[List.count_append];omega,g2,?_⟩
   simp only[del,if_neg hkd]
   exact⟨f1,rr,rfl,h1,g3⟩
theorem HRel.del {sz z rt gh w FS X d ro} (r:HRel sz z rt gh w FS X) (hl:lk rt d=some ro):
  ∃ fd rr,okRoot sz w.heap (Inow z w (rr++(fd++X))) (gh d) ro fd∧HRel sz z (TM.del rt d) gh w rr (fd++X)∧(∀ b,Inow z w (FS++X) b↔Inow z w (rr++(fd++X)) b)∧
   Keeps ⟨sz,w.heap,Inow z w (FS++X),rt,gh⟩ ⟨sz,w.heap,Inow z w (rr++(fd++X)),TM.del rt d,gh⟩ (fun _ _=>True):=by
 obtain⟨fd,rr,h1,h2,h3⟩:=okRts_del r.srt r.roots hl
 have hm:∀ b,b∈FS++X↔b∈rr++(fd++X):=fun b=>by
  rw[←List.count_pos_iff,←List.count_pos_iff]
  have:=h1 b
  simp only[List.count_append]
  omega
 have hI:∀ b,Inow z w (FS++X) b↔Inow z w (rr++(fd++X)) b:=fun b=>by unfold Inow;rw[hm b]
 have hag:∀ {f},Agree w.heap w.heap (Inow z w (FS++X)) (Inow z w (rr++(fd++X))) f:=fun {f}=>⟨fun b hb=>⟨(hI b).1 hb,rfl⟩,fun b _=>rfl⟩
 refine⟨fd,rr,okRoot_agree hag h2,⟨del_srt r.srt,okRts_agree hag h3,fun x=>?_,fun b hb=>r.lt b ((hm b).2 hb),fun b hb=>r.zone b ((hm b).2 hb),r.fr⟩,hI,rfl,fun b hb=>⟨(hI b).1 hb,rfl⟩,?_,?_⟩
 ·have h4:=r.uniq x
  have h5:=h1 x
  simp only[List.count_append] at *
  omega
 ·intro d' s r' _ g1 g2
  by_cases hd:d'=d
  ·subst hd
   rw[show lk (TM.del rt d') d'=none from lk_del_self rt d'] at g1
   simp at g1
  ·have g1:lk (TM.del rt d) d'=some r':=g1
   rw[lk_del_ne rt d d' hd] at g1
   exact⟨r',g1,g2,rfl,skL_self r.roots (fun b _=>rfl) g1⟩
 ·intro d' s r' _ g1 g2
  by_cases hd:d'=d
  ·subst hd
   rw[show lk (TM.del rt d') d'=none from lk_del_self rt d'] at g1
   simp at g1
  ·have g1:lk (TM.del rt d) d'=some r':=g1
   rw[lk_del_ne rt d d' hd] at g1
   exact⟨r',g1,g2,rfl⟩
theorem HRel.back {sz z rt gh w FS X f d} {g:G} {r1:Root} {x0:Cx} {S:Nat→Nat→Prop} (r:HRel sz z rt gh w FS (f++X)) (hr:okRoot sz w.heap (Inow z w (FS++(f++X))) g r1 f) (hd:lk rt d=none)
  (kp:Keeps x0 ⟨sz,w.heap,Inow z w (FS++(f++X)),rt,gh⟩ S) (hS:¬ S d r1.hver) (hb:∃ ro,lk x0.rt d=some ro∧ro.ver=r1.ver∧g.blk=(x0.gh d).blk):
  ∃ FS',HRel sz z (up rt d r1) (gset gh d g) w FS' X∧(∀ b,Inow z w (FS++(f++X)) b→Inow z w (FS'++X) b)∧Keeps x0 ⟨sz,w.heap,Inow z w (FS'++X),up rt d r1,gset gh d g⟩ S:=by
 obtain⟨fo,rr,q1,_,_,_,q4⟩:=okRts_up (d:=d) r.srt r.roots
 obtain⟨FS',p1,p2⟩:=q4 w.heap _ g r1 f ⟨fun b hb=>⟨hb,rfl⟩,fun b _=>rfl⟩ hr
 have hm:∀ b,b∈FS'++X→b∈FS++(f++X):=fun b hb=>by
  have h0:=List.count_pos_iff.2 hb
  have h1:=q1 b
  have h2:=p2 b
  rw[←List.count_pos_iff]
  simp only[List.count_append] at *
  omega
 have hI:∀ b,Inow z w (FS++(f++X)) b→Inow z w (FS'++X) b:=fun b hb=>r.imm_grow (Nat.le_refl _) (fun b hb=>.inl (hm b hb)) hb
 refine⟨FS',⟨up_srt r.srt,okRts_agree ⟨fun b hb=>⟨hI b hb,rfl⟩,fun b _=>rfl⟩ p1,fun x=>?_,fun b hb=>r.lt b (hm b hb),fun b hb=>r.zone b (hm b hb),r.fr⟩,hI,kp.sz,fun b hb=>⟨hI b (kp.old b hb).1,(kp.old b hb).2⟩,?_,?_⟩
 ·have h1:=q1 x
  have h2:=p2 x
  have h3:=r.uniq x
  simp only[List.count_append] at *
  omega
 ·intro d' s r' hs h1 h2
  by_cases he:d'=d
  ·subst he
   simp only[lk_up_self,Option.some.injEq] at h1
   subst h1;subst h2
   exact absurd hs hS
  ·simp only[lk_up_ne _ _ _ _ he] at h1
   obtain⟨r0,g1,g2,g3,g4⟩:=kp.hdr d' s r' hs h1 h2
   exact⟨r0,g1,g2,by simpa[gset,he] using g3,by simpa[gset,he] using g4⟩
 ·intro d' s r' hs h1 h2
  by_cases he:d'=d
  ·subst he
   simp only[lk_up_self,Option.some.injEq] at h1
   subst h1
   obtain⟨ro,g1,g2,g3⟩:=hb
   exact⟨ro,g1,g2.trans h2,by simpa[gset] using g3⟩
  ·simp only[lk_up_ne _ _ _ _ he] at h1
   obtain⟨r0,g1,g2,g3⟩:=kp.top d' s r' hs h1 h2
   exact⟨r0,g1,g2,by simpa[gset,he] using g3⟩
theorem up_del {α:Type}:∀ {l:List (Nat×α)} {d:Nat} {x:α},Srt l→up (del l d) d x=up l d x
 | [],d,x,_=>rfl
 | (k,y)::r,d,x,h=>by
  simp only[del,up]
  by_cases hk:k=d
  ·subst hk
   simp only[if_true]
   rw[del_none fun p hp=>by have:=h.1 p hp;omega]
   cases r with
   | nil=>rfl
   | cons p r=>
    obtain⟨k',y'⟩:=p
    have:k<k':=h.1 (k',y') (by simp)
    simp only[up]
    rw[if_neg (by omega),if_pos this]
  ·simp only[if_neg hk]
   by_cases hlt:d<k
   ·simp only[up,if_neg hk,if_pos hlt]
    rw[del_none fun p hp=>by have:=h.1 p hp;omega]
   ·simp only[up,if_neg hk,if_neg hlt]
    rw[up_del h.2]
theorem lentRow_eq {tick d:Nat}:∀ {cs:List T} {k:Nat} {rt:List (Nat×Root)} {ro:Root},lk rt d=some ro→cs≠[]→k+cs.length=ro.cells.length→
  setCells tick rt (lentRow d k cs)=up rt d { ro with cells:=ro.cells.take k++cs,hver:=nxt tick ro }
 | [],k,rt,ro,_,hn,_=>absurd rfl hn
 | c::cs,k,rt,ro,hl,_,hlen=>by
  simp only[List.length_cons] at hlen
  have h1:setCell tick rt ⟨d,k,c,true⟩=up rt d { ro with cells:=ro.cells.set k c,hver:=nxt tick ro }:=by
   unfold setCell;simp only[hl,if_true]
  simp only[lentRow,setCells,h1]
  have hset:ro.cells.set k c=ro.cells.take k++c::ro.cells.drop (k+1):=by
   rw[List.set_eq_take_append_cons_drop,if_pos (by omega)]
  cases cs with
  | nil=>
   simp only[lentRow,setCells]
   rw[hset,List.drop_of_length_le (by simp at hlen;omega)]
  | cons c' cs=>
   rw[lentRow_eq (ro:={ ro with cells:=ro.cells.set k c,hver:=nxt tick ro }) (lk_up_self _ _ _) (by simp) (by rw[List.length_set];simp at hlen ⊢;omega)]
   have hupup:∀ {l:List (Nat×Root)} {x y:Root},up (up l d x) d y=up l d y:=by
    intro l x y
    induction l with
    | nil=>simp[up]
    | cons p l ih=>
     obtain⟨k',z'⟩:=p
     simp only[up]
     by_cases h:k'=d
     ·simp[h,up]
     ·by_cases h2:d<k'
      ·simp[h,h2,up]
      ·simp only[if_neg h,if_neg h2,up,ih]
   rw[hupup]
   congr 2
   show (ro.cells.set k c).take (k+1)++c'::cs=ro.cells.take k++c::c'::cs
   rw[hset]
   have hk:(ro.cells.take k).length=k:=by rw[List.length_take];simp at hlen;omega
   rw[List.take_append,hk,List.take_of_length_le (by omega)]
   have e1:k+1 - k=1:=by omega
   rw[e1]
   simp
theorem content_congr {rt rt':List (Nat×Root)} {d ver c n:Nat} {path:List (Nat×Nat)} (h:lk rt' d=lk rt d):(content d ver path c n).run rt'=(content d ver path c n).run rt:=by
 cases path with
 | nil=>
  simp only[content,rdPlace,Rd.bind,Rd.run,h]
  split
  ·split
   ·split
    ·split
     ·split<;>rfl
     ·rfl
    ·rfl
   ·rfl
  ·rfl
 | cons p rest=>
  obtain⟨c0,i⟩:=p
  simp only[content,rdPlace,Rd.bind,Rd.run,h]
  split
  ·split
   ·split
    ·split
     ·split
      ·simp only[Rd.bind]
       split
       ·split<;>rfl
       ·rfl
      ·rfl
     ·rfl
    ·rfl
   ·rfl
  ·rfl
theorem run_bind_eq {α β:Type} {rt:List (Nat×Root)}:∀ {m:Rd α} {k:α→Rd β} {a:α},m.run rt=some a→(m.bind k).run rt=(k a).run rt
 | .ret b,k,a,h=>by simp only[Rd.run,Option.some.injEq] at h;subst h;rfl
 | .fail,k,a,h=>by simp[Rd.run] at h
 | .cell hh d v c k0,k,a,h=>by
  obtain⟨r,t,h1,h2,h3,h4⟩:=run_cell h
  simp only[Rd.bind,Rd.run,h1,h2,h3,if_true]
  exact run_bind_eq h4
 | .root hh d v k0,k,a,h=>by
  obtain⟨r,h1,h2,h3⟩:=run_root h
  simp only[Rd.bind,Rd.run,h1,h2,if_true]
  exact run_bind_eq h3
 | .stamp hh d v k0,k,a,h=>by
  obtain⟨r,h1,h2,h3⟩:=run_stamp h
  simp only[Rd.bind,Rd.run,h1,h2,if_true]
  exact run_bind_eq h3
theorem seal0_congr {rt rt':List (Nat×Root)} {t t':T} {ds:List Nat} (h:(seal0 t).run rt=some (t',ds)) (hd:∀ d,d∈ds→lk rt' d=lk rt d):(seal0 t).run rt'=some (t',ds):=by
 unfold seal0 at h ⊢
 split at h
 ·obtain⟨⟨e,es⟩,g1,g2⟩:=run_bind h
  simp only[Rd.run,Option.some.injEq,Prod.mk.injEq] at g2
  obtain⟨rfl,rfl⟩:=g2
  rw[←content_congr (hd _ (by simp))] at g1
  rw[run_bind_eq g1];rfl
 all_goals first | exact h | simp[Rd.run] at h
theorem sealCells_congr {f:T→Rd (T×List Nat)} {rt rt':List (Nat×Root)} (hf:∀ {t t' ds},(f t).run rt=some (t',ds)→(∀ d,d∈ds→lk rt' d=lk rt d)→(f t).run rt'=some (t',ds)):
  ∀ {ts ts':List T} {ds:List Nat},(sealCells f ts).run rt=some (ts',ds)→(∀ d,d∈ds→lk rt' d=lk rt d)→(sealCells f ts).run rt'=some (ts',ds)
 | [],ts',ds,h,_=>h
 | t::ts,ts',ds,h,hd=>by
  simp only[sealCells] at h ⊢
  obtain⟨⟨t1,d1⟩,h1,h2⟩:=run_bind h
  obtain⟨⟨ts1,d2⟩,h3,h4⟩:=run_bind h2
  simp only[Rd.run,Option.some.injEq,Prod.mk.injEq] at h4
  obtain⟨rfl,rfl⟩:=h4
  rw[run_bind_eq (hf h1 fun d hx=>hd d (by simp[hx]))]
  rw[run_bind_eq (sealCells_congr hf h3 fun d hx=>hd d (by simp[hx]))]
  rfl
theorem sealP_congr {rt rt':List (Nat×Root)} {d ver off:Nat} {path:List (Nat×Nat)} {t':T} {ds:List Nat} (h:(sealP d ver path off).run rt=some (t',ds)) (hd:∀ d,d∈ds→lk rt' d=lk rt d):(sealP d ver path off).run rt'=some (t',ds):=by
 unfold sealP at h ⊢
 ·split at h
  ·obtain⟨r0,g1,g2,g3⟩:=run_root h
   split at g3
   ·rename_i hle
    obtain⟨⟨ts,ds'⟩,g4,g5⟩:=run_bind g3
    simp only[Rd.run,Option.some.injEq,Prod.mk.injEq] at g5
    obtain⟨rfl,rfl⟩:=g5
    simp only[Rd.run,hd _ (List.mem_cons_self),g1,g2,if_true,if_pos hle]
    rw[run_bind_eq (sealCells_congr (fun h1 h2=>seal0_congr h1 h2) g4 fun d hx=>hd d (by simp[hx]))]
    rfl
   ·simp[Rd.run] at g3
  ·obtain⟨ro,t0,g1,g2,g3,g4⟩:=run_cell h
   split at g4
   ·rename_i cs hcs
    split at g4
    ·rename_i hle
     simp only[Rd.run,Option.some.injEq,Prod.mk.injEq] at g4
     obtain⟨rfl,rfl⟩:=g4
     simp only[Rd.run,hd _ (List.mem_cons_self),g1,g2,if_true,g3,hcs,if_pos hle]
    ·simp[Rd.run] at g4
   ·simp[Rd.run] at g4
theorem seal1_congr {rt rt':List (Nat×Root)} {t t':T} {ds:List Nat} (h:(seal1 t).run rt=some (t',ds)) (hd:∀ d,d∈ds→lk rt' d=lk rt d):(seal1 t).run rt'=some (t',ds):=by
 unfold seal1 at h ⊢
 split at h
 ·exact sealP_congr h hd
 ·obtain⟨⟨t1,ds1⟩,h1,h2⟩:=run_bind h
  simp only[Rd.run,Option.some.injEq,Prod.mk.injEq] at h2
  obtain⟨rfl,rfl⟩:=h2
  rw[run_bind_eq (sealP_congr h1 hd)]
  rfl
 ·exact seal0_congr h hd
theorem seal2_congr {rt rt':List (Nat×Root)} {t t':T} {ds:List Nat} (h:(seal2 t).run rt=some (t',ds)) (hd:∀ d,d∈ds→lk rt' d=lk rt d):(seal2 t).run rt'=some (t',ds):=by
 unfold seal2 at h ⊢
 split at h
 ·obtain⟨⟨ts,ds'⟩,g1,g2⟩:=run_bind h
  simp only[Rd.run,Option.some.injEq,Prod.mk.injEq] at g2
  obtain⟨rfl,rfl⟩:=g2
  rw[run_bind_eq (sealCells_congr (fun h1 h2=>seal1_congr h1 h2) g1 hd)]
  rfl
 ·obtain⟨⟨ts,ds'⟩,g1,g2⟩:=run_bind h
  simp only[Rd.run,Option.some.injEq,Prod.mk.injEq] at g2
  obtain⟨rfl,rfl⟩:=g2
  rw[run_bind_eq (sealCells_congr (fun h1 h2=>seal1_congr h1 h2) g1 hd)]
  rfl
 ·exact seal1_congr h hd
def okPre (sz:TypeId→Nat) (h:Array Obj) (I:Nat→Prop):Nat→List Arg→List Value→List Nat→Prop
 | _,[],us,f=>us=[]∧f=[]
 | i,a::as,us,f=>∃ u us' f1 f2,us=u::us'∧f=f1++f2∧(∀ r,a.root=some r→r.real=false→okArg sz h I i a u f1)∧((∀ r,a.root=some r→r.real=true)→f1=[])∧okPre sz h I (i+1) as us' f2
theorem okArg_agree {sz h h' I I' i a u f} (ha:Agree h h' I I' f) (hk:okArg sz h I i a u f):okArg sz h' I' i a u f:=by
 unfold okArg at hk ⊢
 split at hk
 ·obtain⟨h1,rfl⟩:=hk
  exact⟨okV_agree ⟨ha.1,fun b hb=>by simp at hb⟩ h1,rfl⟩
 ·obtain⟨g,h1,h2,h3,h4⟩:=hk
  refine⟨g,okRoot_agree ha h1,h2,h3,?_⟩
  rcases h4 with h4 | h4 | ⟨h5,cs,us,h6,h7,h8,h9,h10⟩
  ·exact .inl h4
  ·exact .inr (.inl h4)
  ·exact .inr (.inr ⟨h5,cs,us,h6,h7,h8,h9,okL_agree ⟨ha.1,fun b hb=>by simp at hb⟩ h10⟩)
theorem okL_vw {sz h I}:∀ {cs us f},okL sz h I cs us f→okL sz h I (cs.map vw) us []
 | [],us,f,hk=>by simp only[okL] at hk;simp only[List.map_nil,okL];exact⟨hk.1,trivial⟩
 | c::cs,us,f,hk=>by
  simp only[okL] at hk
  obtain⟨u,us',f1,f2,rfl,rfl,h1,h2⟩:=hk
  simp only[List.map_cons,okL]
  refine⟨u,us',[],[],rfl,rfl,?_,okL_vw h2⟩
  cases c with
  | agg _=>simp[vw,okV]
  | tup _=>simp[vw,okV]
  | own _ _=>simp[vw,okV]
  | obx _=>simp[vw,okV]
  | _=>
   have:=okV_cell h1 rfl rfl
   subst this
   exact h1
theorem okPre_agree {sz h h' I I'}:∀ {as i us f},Agree h h' I I' f→okPre sz h I i as us f→okPre sz h' I' i as us f
 | [],i,us,f,_,hk=>hk
 | a::as,i,us,f,ha,hk=>by
  obtain⟨u,us',f1,f2,rfl,rfl,h1,h2,h3⟩:=hk
  exact⟨u,us',f1,f2,rfl,rfl,fun r hr hr2=>okArg_agree ha.left (h1 r hr hr2),h2,okPre_agree ha.right h3⟩
theorem nilOf_ok {E:Env} (_ht:TiOk E) {x:Cx} {S:Nat→Nat→Prop} {ty:TypeId} {t:T} {u:Value} (hk:okX x t u) (hs:stX S t):okX x (nilOf E ty t) u∧stX S (nilOf E ty t):=by
 unfold nilOf
 split
 ·have hu:=okX_v.1 hk
  subst hu
  split
  ·exact⟨by show okV x.sz x.h x.I (.own _ []) _ [];simp[okV],trivial⟩
  ·exact⟨hk,hs⟩
 ·exact⟨hk,hs⟩
theorem stX_mono {S S':Nat→Nat→Prop} (h:∀ a b,S a b→S' a b) {t:T} (hs:stX S t):stX S' t:=by
 have s0:∀ t,st0 S t→st0 S' t:=fun t ht=>by cases t<;>first | trivial | exact h _ _ ht
 have s1:∀ t,st1 S t→st1 S' t:=fun t ht=>by
  cases t<;>first | trivial | exact h _ _ ht | exact fun c hc=>s0 c (ht c hc)
 cases t<;>first | trivial | exact h _ _ hs | exact fun c hc=>s0 c (hs c hc) | exact fun c hc=>s1 c (hs c hc)
section args
variable {E:Env} {z:Zn} {tick:Nat} {rt0:List (Nat×Root)} {gh:Nat→G} {w:World}
theorem mkArg_take (ht:TiOk E) {rt1 FS1 X D i m ty t u} {q:Arg×List Nat×List (Nat×Nat)×List CSet} (r:HRel (szOf E) z rt1 gh w FS1 X) (p:Pres D rt0 rt1) (h:(mkArg E i m ty t).run rt0=some q) (hap:setsApart q.2.2.2=true)
  (hD:∀ s,s∈q.2.2.2→(s.d,s.c)∉D) (hk:okX ⟨szOf E,w.heap,Inow z w (FS1++X),rt1,gh⟩ t u) (hs:stX (Stm tick rt1) t):
  ∃ FS' f,HRel (szOf E) z (setCells tick rt1 q.2.2.2) gh w FS' (f++X)∧
   Keeps ⟨szOf E,w.heap,Inow z w (FS1++X),rt1,gh⟩ ⟨szOf E,w.heap,Inow z w (FS'++(f++X)),setCells tick rt1 q.2.2.2,gh⟩ (Stm tick rt1)∧
   Pres (places q.2.2.2++D) rt0 (setCells tick rt1 q.2.2.2)∧
   (∀ r,q.1.root=some r→r.real=false→okArg (szOf E) w.heap (Inow z w (FS'++(f++X))) i q.1 u f)∧((∀ r,q.1.root=some r→r.real=true)→f=[]):=by
 have quiet:q.2.2.2=[]→(∀ r,q.1.root=some r→r.real=true)→∃ FS' f,HRel (szOf E) z (setCells tick rt1 q.2.2.2) gh w FS' (f++X)∧
   Keeps ⟨szOf E,w.heap,Inow z w (FS1++X),rt1,gh⟩ ⟨szOf E,w.heap,Inow z w (FS'++(f++X)),setCells tick rt1 q.2.2.2,gh⟩ (Stm tick rt1)∧
   Pres (places q.2.2.2++D) rt0 (setCells tick rt1 q.2.2.2)∧
   (∀ r,q.1.root=some r→r.real=false→okArg (szOf E) w.heap (Inow z w (FS'++(f++X))) i q.1 u f)∧((∀ r,q.1.root=some r→r.real=true)→f=[]):=fun h1 h2=>by
  rw[h1]
  exact⟨FS1,[],r,r.keeps_refl _ fun b hb=>hb,p,fun r' hr hr2=>by rw[h2 r' hr] at hr2;simp at hr2,fun _=>rfl⟩
 unfold mkArg at h
 cases m with
 | R=>
  obtain⟨⟨t',ds⟩,g1,g2⟩:=run_bind h
  simp only[Rd.run,Option.some.injEq] at g2
  subst g2
  exact quiet rfl fun r' hr=>by simp at hr
 | M=>
  dsimp only at h
  split at h
  ·obtain⟨r0,g1,g2,g3⟩:=run_root h
   split at g3
   ·simp only[Rd.run,Option.some.injEq] at g3
    subst g3
    exact quiet rfl fun r' hr=>by simp only[Option.some.injEq] at hr;rw[←hr]
   ·simp[Rd.run] at g3
  ·simp[Rd.run] at h
 | L=>simp[Rd.run] at h
 | N=>simp[Rd.run] at h
 | B=>simp[Rd.run] at h
 | P=>
  dsimp only at h
  split at h
  ·simp only[Rd.run,Option.some.injEq] at h
   subst h
   exact quiet rfl fun r' hr=>by simp at hr
  ·simp[Rd.run] at h
 | V=>
  dsimp only at h
  obtain⟨k1,k2⟩:=nilOf_ok ht (ty:=ty) hk hs
  split at h
  ·rename_i d ver path c n hn
   rw[hn] at k1 k2
   obtain⟨⟨⟨e,es⟩,s⟩,g1,g2⟩:=run_bind h
   simp only[Rd.run,Option.some.injEq] at g2
   subst g2
   obtain⟨q1,q2,q3,FS',f,q4,q5,q6⟩:=r.take (tick:=tick) k1.2 (p.take g1 (hD s (by simp)))
   refine⟨FS',f,q5,q6,p.step q1,fun r' hr _=>?_,fun hr=>?_⟩
   ·refine⟨⟨none,[u]⟩,⟨rfl,okL_one.2 (okV_agree ⟨fun b hb=>q6.old b hb,fun b _=>rfl⟩ q4)⟩,rfl,Nat.zero_le 1,.inr (.inl ⟨rfl,e,es,rfl,by rw[q3],rfl⟩)⟩
   ·have:=hr _ rfl
    simp at this
  ·rename_i e es hn
   rw[hn] at k1 k2
   simp only[Rd.run,Option.some.injEq] at h
   subst h
   have hv:okV (szOf E) w.heap (Inow z w (FS1++X)) (.own e es) u []:=k1
   refine⟨FS1,[],r,r.keeps_refl _ fun b hb=>hb,p,fun r' hr _=>?_,fun _=>rfl⟩
   exact⟨⟨none,[u]⟩,⟨rfl,okL_one.2 hv⟩,rfl,Nat.zero_le 1,.inr (.inl ⟨rfl,e,es,rfl,rfl,rfl⟩)⟩
  ·rename_i cs hn
   rw[hn] at k1 k2
   obtain⟨⟨ts,ss⟩,g1,g2⟩:=run_bind h
   simp only[Rd.run,Option.some.injEq] at g2
   subst g2
   obtain⟨us,rfl,k3⟩:=k1
   obtain⟨FS',f,l1,l2,_⟩:=inlineL_ok (tick:=tick) r p g1 hap hD k3 (fun t ht=>k2 t ht)
   obtain⟨f',m1,m2⟩:=okMix_of_L (x:=⟨szOf E,w.heap,Inow z w (FS'++(f++X)),setCells tick rt1 ss,gh⟩) (S:=Stm tick rt1) l2
   obtain⟨r',hI⟩:=fewer_floats (X':=f'++X) l1.rel (fun x=>by have:=m1 x;simp only[List.count_append];omega)
   refine⟨FS',f',r',l1.keeps.trans (l1.rel.keeps_refl (Stm tick rt1) hI) (fun _ _ h=>h),l1.pres,fun r0 hr _=>?_,fun hr=>?_⟩
   ·refine⟨⟨none,us⟩,⟨rfl,okL_agree ⟨fun b hb=>⟨hI b hb,rfl⟩,fun b _=>rfl⟩ (okMix_root m2)⟩,rfl,Nat.zero_le 1,.inr (.inr ⟨rfl,ts,us,rfl,rfl,rfl,rfl,okL_agree ⟨fun b hb=>⟨hI b hb,rfl⟩,fun b hb=>by simp at hb⟩ (okL_vw l2)⟩)⟩
   ·have:=hr _ rfl
    simp at this
  ·simp[Rd.run] at h
end args
def dels:List (Nat×Root)→List Nat→List (Nat×Root)
 | rt,[]=>rt
 | rt,d::ds=>dels (del rt d) ds
theorem lk_dels_ne:∀ {ds:List Nat} {rt:List (Nat×Root)} {d:Nat},d∉ds→lk (dels rt ds) d=lk rt d
 | [],rt,d,_=>rfl
 | e::ds,rt,d,h=>by
  simp only[List.mem_cons,not_or] at h
  simp only[dels]
  rw[lk_dels_ne h.2,lk_del_ne rt e d h.1]
def okLents (sz:TypeId→Nat) (h:Array Obj) (I:Nat→Prop) (gh:Nat→G) (rt:List (Nat×Root)):List Nat→List Nat→Prop
 | [],f=>f=[]
 | d::ds,f=>∃ ro f1 f2,f=f1++f2∧lk rt d=some ro∧okRoot sz h I (gh d) ro f1∧okLents sz h I gh rt ds f2
theorem okLents_agree {sz h h' I I' gh rt rt'}:∀ {ds f},Agree h h' I I' f→(∀ d,d∈ds→lk rt' d=lk rt d)→okLents sz h I gh rt ds f→okLents sz h' I' gh rt' ds f
 | [],f,_,_,hk=>hk
 | d::ds,f,ha,hd,hk=>by
  obtain⟨ro,f1,f2,rfl,h1,h2,h3⟩:=hk
  exact⟨ro,f1,f2,rfl,by rw[hd d (by simp)];exact h1,okRoot_agree ha.left h2,okLents_agree ha.right (fun d hx=>hd d (by simp[hx])) h3⟩
theorem dels_ok {sz z gh w}:∀ {ds:List Nat} {rt FS X},HRel sz z rt gh w FS X→distinct ds=true→(∀ d,d∈ds→∃ ro,lk rt d=some ro)→
  ∃ FS' fM,HRel sz z (dels rt ds) gh w FS' (fM++X)∧(∀ b,Inow z w (FS++X) b↔Inow z w (FS'++(fM++X)) b)∧
   Keeps ⟨sz,w.heap,Inow z w (FS++X),rt,gh⟩ ⟨sz,w.heap,Inow z w (FS'++(fM++X)),dels rt ds,gh⟩ (fun _ _=>True)∧
   okLents sz w.heap (Inow z w (FS'++(fM++X))) gh rt ds fM
 | [],rt,FS,X,r,_,_=>⟨FS,[],r,fun b=>Iff.rfl,r.keeps_refl _ fun b hb=>hb,rfl⟩
 | d::ds,rt,FS,X,r,hd,hl=>by
  simp only[distinct,Bool.and_eq_true,Bool.not_eq_true',List.contains_eq_mem,decide_eq_false_iff_not] at hd
  obtain⟨ro,hro⟩:=hl d (by simp)
  obtain⟨fd,rr,h1,h2,h3,h4⟩:=r.del hro
  obtain⟨FS',fM,k1,k2,k3,k4⟩:=dels_ok h2 hd.2 (fun e he=>by
   obtain⟨ro',h5⟩:=hl e (by simp[he])
   exact⟨ro',by rw[lk_del_ne rt d e (fun hh=>hd.1 (hh▸he))];exact h5⟩)
  obtain⟨r',hI⟩:=k1.perm (X':=(fd++fM)++X) fun x=>by simp only[List.count_append];omega
  refine⟨FS',fd++fM,r',fun b=>(h3 b).trans ((k2 b).trans (hI b)),?_,ro,fd,fM,rfl,hro,?_,?_⟩
  ·exact (h4.trans k3 fun _ _ h=>h).trans (k1.keeps_refl (fun _ _=>True) fun b hb=>(hI b).1 hb) fun _ _ h=>h
  ·exact okRoot_agree ⟨fun b hb=>⟨(hI b).1 ((k2 b).1 hb),rfl⟩,fun b _=>rfl⟩ h1
  ·exact okLents_agree ⟨fun b hb=>⟨(hI b).1 hb,rfl⟩,fun b _=>rfl⟩ (fun e he=>(lk_del_ne rt d e (fun hh=>hd.1 (hh▸he))).symm) k4
section args
variable {E:Env} {z:Zn} {tick:Nat} {rt0:List (Nat×Root)} {gh:Nat→G} {w:World}
theorem mkArgs_takes (ht:TiOk E):∀ {ts:List T} {i:Nat} {ms:List Mode} {tys:List TypeId} {us:List Value} {l:Lends} {rt1 FS1 X D},HRel (szOf E) z rt1 gh w FS1 X→Pres D rt0 rt1→
  (mkArgs E i ms tys ts).run rt0=some l→setsApart l.sets=true→(∀ s,s∈l.sets→(s.d,s.c)∉D)→All2 (okX ⟨szOf E,w.heap,Inow z w (FS1++X),rt1,gh⟩) ts us→(∀ t,t∈ts→stX (Stm tick rt1) t)→
  ∃ FS' f,HRel (szOf E) z (setCells tick rt1 l.sets) gh w FS' (f++X)∧
   Keeps ⟨szOf E,w.heap,Inow z w (FS1++X),rt1,gh⟩ ⟨szOf E,w.heap,Inow z w (FS'++(f++X)),setCells tick rt1 l.sets,gh⟩ (Stm tick rt1)∧
   okPre (szOf E) w.heap (Inow z w (FS'++(f++X))) i l.args us f
 | [],i,ms,tys,us,l,rt1,FS1,X,D,r,p,h,_,_,hk,_=>by
  simp only[mkArgs,Rd.run,Option.some.injEq] at h
  subst h
  simp only[All2] at hk;subst hk
  exact⟨FS1,[],r,r.keeps_refl _ fun b hb=>hb,rfl,rfl⟩
 | t::ts,i,ms,tys,us,l,rt1,FS1,X,D,r,p,h,hap,hD,hk,hs=>by
  simp only[mkArgs] at h
  obtain⟨q,h1,h2⟩:=run_bind h
  obtain⟨l',h3,h4⟩:=run_bind h2
  simp only[Rd.run,Option.some.injEq] at h4
  subst h4
  obtain⟨u,us',rfl,k1,k2⟩:=hk
  dsimp only at hap hD
  obtain⟨a1,a2,a3⟩:=setsApart_append hap
  obtain⟨FS2,f1,r2,kp2,p2,o1,o2⟩:=mkArg_take (tick:=tick) ht r p h1 a1 (fun s hx=>hD s (by simp[hx])) k1 (hs t (by simp))
  obtain⟨FS3,f2,r3,kp3,o3⟩:=mkArgs_takes ht r2 p2 h3 a2 (fun s hx=>by
   have h5:=hD s (by simp[hx])
   have h6:=a3 s hx
   simp only[List.mem_append,not_or]
   exact⟨h6,h5⟩) (k2.imp fun t u hm hx=>kp2.x (hs t (by simp[hm])) hx) (fun t hm=>stX_mono (fun a b=>Stm_sets a b) (hs t (by simp[hm])))
  have hrt:setCells tick rt1 (q.2.2.2++l'.sets)=setCells tick (setCells tick rt1 q.2.2.2) l'.sets:=setCells_append
  obtain⟨r4,hI⟩:=r3.perm (X':=(f1++f2)++X) fun x=>by simp only[List.count_append];omega
  refine⟨FS3,f1++f2,by rw[hrt];exact r4,?_,u,us',f1,f2,rfl,rfl,fun r' hr hr2=>?_,o2,?_⟩
  ·rw[hrt]
   exact (kp2.trans kp3 fun a b h=>Stm_sets a b h).trans (r3.keeps_refl (Stm tick rt1) fun b hb=>(hI b).1 hb) fun _ _ h=>h
  ·exact okArg_agree ⟨fun b hb=>⟨(hI b).1 (kp3.old b hb).1,rfl⟩,fun b _=>rfl⟩ (o1 r' hr hr2)
  ·exact okPre_agree ⟨fun b hb=>⟨(hI b).1 hb,rfl⟩,fun b _=>rfl⟩ o3
theorem mkArgs_all {sz:TypeId→Nat} {I' I'':Nat→Prop} {rt':List (Nat×Root)} {x':Cx}:∀ {ts:List T} {i:Nat} {ms:List Mode} {tys:List TypeId} {us:List Value} {l:Lends} {fV fM:List Nat},
  (mkArgs E i ms tys ts).run rt0=some l→okPre sz w.heap I' i l.args us fV→okLents sz w.heap I' gh rt' (l.lent.map (·.2)) fM→
  (∀ b,I' b→I'' b)→(∀ d,d∈l.lent.map (·.2)→lk rt' d=lk rt0 d)→
  (∀ t t' u ty ds,t∈ts→okX x' t u→(seal2 (nilOf E ty t)).run rt0=some (t',ds)→(∀ d,d∈ds→d∈l.used)→okV sz w.heap I'' t' u [])→
  (∀ d ver u,okX x' (.ptr d ver [] 0) u→∀ r,lk rt0 d=some r→r.ver=ver→lk rt' d=lk rt0 d→∃ b,(gh d).blk=some b∧u=.pointer (some ⟨b.b,b.pre.length,none⟩))→
  All2 (okX x') ts us→∃ f,okArgs sz w.heap I'' i l.args us f∧∀ b,f.count b=fV.count b+fM.count b
 | [],i,ms,tys,us,l,fV,fM,h,hV,hM,hI,_,_,_,hk=>by
  simp only[mkArgs,Rd.run,Option.some.injEq] at h
  subst h
  obtain⟨rfl,rfl⟩:=hV
  have hM:fM=[]:=hM
  subst hM
  exact⟨[],⟨rfl,rfl⟩,fun b=>by simp⟩
 | t::ts,i,ms,tys,us,l,fV,fM,h,hV,hM,hI,hl,hR,hP,hk=>by
  simp only[mkArgs] at h
  obtain⟨q,h1,h2⟩:=run_bind h
  obtain⟨l',h3,h4⟩:=run_bind h2
  simp only[Rd.run,Option.some.injEq] at h4
  subst h4
  obtain⟨u,us',rfl,k1,k2⟩:=hk
  obtain⟨u0,us0,f1,f2,he,rfl,o1,o2,o3⟩:=hV
  simp only[List.cons.injEq] at he
  obtain⟨rfl,rfl⟩:=he
  dsimp only at hM hl hR o1 o2 o3 ⊢
  have rec_:∀ {fM'},okLents sz w.heap I' gh rt' (l'.lent.map (·.2)) fM'→∃ f,okArgs sz w.heap I'' (i+1) l'.args us' f∧∀ b,f.count b=f2.count b+fM'.count b:=fun hM'=>
   mkArgs_all h3 o3 hM' hI (fun d hd=>hl d (by rw[List.map_append,List.mem_append];exact .inr hd)) (fun t t' u ty ds ht hk hs hu=>hR t t' u ty ds (by simp[ht]) hk hs (fun d hd=>by simp[hu d hd])) hP k2
  unfold mkArg at h1
  cases m0:ms.headD .R with
  | R=>
   rw[m0] at h1
   obtain⟨⟨t',ds⟩,g1,g2⟩:=run_bind h1
   simp only[Rd.run,Option.some.injEq] at g2
   subst g2
   have hf1:f1=[]:=o2 fun r hr=>by simp at hr
   subst hf1
   obtain⟨f,p1,p2⟩:=rec_ (fM':=fM) (by simpa using hM)
   exact⟨f,⟨u,us',[],f,rfl,rfl,⟨hR t t' u _ ds (by simp) k1 g1 (fun d hd=>by simp[hd]),rfl⟩,p1⟩,fun b=>by simpa using p2 b⟩
  | M=>
   rw[m0] at h1
   dsimp only at h1
   split at h1
   ·rename_i d ver
    obtain⟨r0,g1,g2,g3⟩:=run_root h1
    split at g3
    ·rename_i hreal
     simp only[Rd.run,Option.some.injEq] at g3
     subst g3
     have hf1:f1=[]:=o2 fun r hr=>by simp only[Option.some.injEq] at hr;rw[←hr]
     subst hf1
     simp only[List.map_cons,List.cons_append,List.nil_append] at hM
     obtain⟨ro,fd,fM',rfl,w1,w2,w3⟩:=hM
     obtain⟨f,p1,p2⟩:=rec_ w3
     have hsame:=hl d (by simp)
     rw[hsame,g1] at w1
     simp only[Option.some.injEq] at w1;subst w1
     obtain⟨b,hb,hu⟩:=hP d ver u k1 r0 g1 g2 hsame
     have hro:okRoot sz w.heap I' (gh d) ⟨0,1,true,r0.cells⟩ fd:=by
      unfold okRoot at w2 ⊢
      rw[hb] at w2 ⊢
      exact⟨rfl,w2.2⟩
     refine⟨fd++f,⟨u,us',fd,f,rfl,rfl,?_,p1⟩,fun b=>by have:=p2 b;simp only[List.count_append,List.count_nil] at *;omega⟩
     exact⟨gh d,okRoot_agree ⟨fun b hb=>⟨hI b hb,rfl⟩,fun b _=>rfl⟩ hro,rfl,Nat.le_refl 1,.inl ⟨rfl,rfl,b,hb,hu⟩⟩
    ·simp[Rd.run] at g3
   ·simp[Rd.run] at h1
  | L=>rw[m0] at h1;simp[Rd.run] at h1
  | N=>rw[m0] at h1;simp[Rd.run] at h1
  | B=>rw[m0] at h1;simp[Rd.run] at h1
  | P=>
   rw[m0] at h1
   dsimp only at h1
   split at h1
   ·rename_i x
    simp only[Rd.run,Option.some.injEq] at h1
    subst h1
    have hf1:f1=[]:=o2 fun r hr=>by simp at hr
    subst hf1
    obtain⟨f,p1,p2⟩:=rec_ (fM':=fM) (by simpa using hM)
    have hu:u=x:=okX_v.1 k1
    exact⟨f,⟨u,us',[],f,rfl,rfl,⟨by simp only[okV];exact⟨hu,trivial⟩,rfl⟩,p1⟩,fun b=>by simpa using p2 b⟩
   ·simp[Rd.run] at h1
  | V=>
   rw[m0] at h1
   dsimp only at h1
   have fin:∀ r,q.1.root=some r→r.real=false→q.2.2.1=[]→∃ f,okArgs sz w.heap I'' i (q.1::l'.args) (u::us') f∧∀ b,f.count b=(f1++f2).count b+fM.count b:=fun r hr hr2 hq=>by
    rw[hq] at hM
    obtain⟨f,p1,p2⟩:=rec_ (fM':=fM) (by simpa using hM)
    exact⟨f1++f,⟨u,us',f1,f,rfl,rfl,okArg_agree ⟨fun b hb=>⟨hI b hb,rfl⟩,fun b _=>rfl⟩ (o1 r hr hr2),p1⟩,fun b=>by have:=p2 b;simp only[List.count_append] at *;omega⟩
   split at h1
   ·obtain⟨⟨⟨e,es⟩,s⟩,g1,g2⟩:=run_bind h1
    simp only[Rd.run,Option.some.injEq] at g2
    subst g2
    exact fin _ rfl rfl rfl
   ·simp only[Rd.run,Option.some.injEq] at h1
    subst h1
    exact fin _ rfl rfl rfl
   ·obtain⟨⟨ts0,ss0⟩,g1,g2⟩:=run_bind h1
    simp only[Rd.run,Option.some.injEq] at g2
    subst g2
    exact fin _ rfl rfl rfl
   ·simp[Rd.run] at h1
end args
theorem HRel.after {sz z rt gh w FS X} (r:HRel sz z rt gh w FS X) {z':Zn} {w':World} {X':List Nat} (hw:z'.w0=w) (hF:∀ b,b∈z'.F0→b∈X) (fr:Fr z' w') (hu:Uniq X')
  (hz:∀ b,b∈X'→b<w'.heap.size∧(b∈z'.F0∨w.heap.size≤b)):
  HRel sz z rt gh w' FS X'∧Keeps ⟨sz,w.heap,Inow z w (FS++X),rt,gh⟩ ⟨sz,w'.heap,Inow z w' (FS++X'),rt,gh⟩ (fun _ _=>True)∧(∀ b,Inow z w (FS++X) b→Inow z w' (FS++X') b):=by
 subst hw
 have hsz:z'.w0.heap.size≤w'.heap.size:=fr.size
 have hdis:∀ b,b∈FS→b∉X:=fun b h1 h2=>by
  have:=r.uniq b
  have h3:=List.count_pos_iff.2 h1
  have h4:=List.count_pos_iff.2 h2
  simp only[List.count_append] at this
  omega
 have hFS:∀ b,b∈FS→w'.heap[b]?=z'.w0.heap[b]?:=fun b hb=>fr.block b (r.lt b (by simp[hb])) fun h=>hdis b hb (hF b h)
 have hI:∀ b,Inow z z'.w0 (FS++X) b→Inow z w' (FS++X') b:=fun b hb=>r.imm_grow hsz (fun b hb=>by
  rcases List.mem_append.1 hb with hb | hb
  ·exact .inl (by simp[hb])
  ·rcases (hz b hb).2 with h | h
   ·exact .inl (by simp[hF b h])
   ·exact .inr h) hb
 have hag:∀ b,Inow z z'.w0 (FS++X) b→Inow z w' (FS++X') b∧w'.heap[b]?=z'.w0.heap[b]?:=fun b hb=>
  ⟨hI b hb,fr.block b (r.imm hb).1 fun h=>(r.imm hb).2 (by simp[hF b h])⟩
 refine⟨⟨r.srt,okRts_agree ⟨hag,hFS⟩ r.roots,fun x=>?_,fun b hb=>?_,fun b hb=>?_,?_⟩,⟨rfl,hag,fun d s r' _ h1 h2=>⟨r',h1,h2,rfl,skL_self r.roots hFS h1⟩,fun d s r' _ h1 h2=>⟨r',h1,h2,rfl⟩⟩,hI⟩
 ·have h1:=r.uniq x
  have h2:=hu x
  simp only[List.count_append] at *
  by_cases hx:x∈FS
  ·have hnx:X'.count x=0:=List.count_eq_zero.2 fun hm=>by
    rcases (hz x hm).2 with h | h
    ·exact hdis x hx (hF x h)
    ·have:=r.lt x (by simp[hx]);omega
   omega
  ·have:FS.count x=0:=List.count_eq_zero.2 hx
   omega
 ·rcases List.mem_append.1 hb with hb | hb
  ·have:=r.lt b (by simp[hb]);omega
  ·exact (hz b hb).1
 ·rcases List.mem_append.1 hb with hb | hb
  ·exact r.zone b (by simp[hb])
  ·rcases (hz b hb).2 with h | h
   ·exact r.zone b (by simp[hF b h])
   ·have:=r.fr.size;exact .inr (by omega)
 ·exact r.fr.step r.zone fr.os fr.output fr.tape hsz fun b hb hn=>fr.block b hb fun h=>hn (by simp[hF b h])
theorem setCell_other {tick rt s d} (h:d≠s.d):lk (setCell tick rt s) d=lk rt d:=by
 unfold setCell
 split
 ·rw[lk_up_ne _ _ _ _ h]
 ·rfl
theorem setCells_other {tick}:∀ {ss:List CSet} {rt d},d∉ss.map (·.d)→lk (setCells tick rt ss) d=lk rt d
 | [],rt,d,_=>rfl
 | s::ss,rt,d,h=>by
  simp only[List.map_cons,List.mem_cons,not_or] at h
  simp only[setCells]
  rw[setCells_other h.2,setCell_other h.1]
theorem mkArgs_lent {E:Env} {rt0:List (Nat×Root)}:∀ {ts:List T} {i:Nat} {ms:List Mode} {tys:List TypeId} {l:Lends},(mkArgs E i ms tys ts).run rt0=some l→
  ∀ d,d∈l.lent.map (·.2)→∃ ro,lk rt0 d=some ro
 | [],i,ms,tys,l,h,d,hd=>by
  simp only[mkArgs,Rd.run,Option.some.injEq] at h
  subst h
  simp at hd
 | t::ts,i,ms,tys,l,h,d,hd=>by
  simp only[mkArgs] at h
  obtain⟨q,h1,h2⟩:=run_bind h
  obtain⟨l',h3,h4⟩:=run_bind h2
  simp only[Rd.run,Option.some.injEq] at h4
  subst h4
  simp only[List.map_append,List.mem_append] at hd
  rcases hd with hd | hd
  ·unfold mkArg at h1
   cases m0:ms.headD .R with
   | R=>
    rw[m0] at h1
    obtain⟨⟨t',ds⟩,g1,g2⟩:=run_bind h1
    simp only[Rd.run,Option.some.injEq] at g2
    subst g2
    simp at hd
   | M=>
    rw[m0] at h1
    dsimp only at h1
    split at h1
    ·obtain⟨r0,g1,g2,g3⟩:=run_root h1
     split at g3
     ·simp only[Rd.run,Option.some.injEq] at g3
      subst g3
      simp only[List.map_cons,List.map_nil,List.mem_singleton] at hd
      subst hd
      exact⟨r0,g1⟩
     ·simp[Rd.run] at g3
    ·simp[Rd.run] at h1
   | L=>rw[m0] at h1;simp[Rd.run] at h1
   | N=>rw[m0] at h1;simp[Rd.run] at h1
   | B=>rw[m0] at h1;simp[Rd.run] at h1
   | P=>
    rw[m0] at h1
    dsimp only at h1
    split at h1
    ·simp only[Rd.run,Option.some.injEq] at h1
     subst h1
     simp at hd
    ·simp[Rd.run] at h1
   | V=>
    rw[m0] at h1
    dsimp only at h1
    split at h1
    ·obtain⟨⟨⟨e,es⟩,s⟩,g1,g2⟩:=run_bind h1
     simp only[Rd.run,Option.some.injEq] at g2
     subst g2
     simp at hd
    ·simp only[Rd.run,Option.some.injEq] at h1
     subst h1
     simp at hd
    ·obtain⟨⟨ts0,ss0⟩,g1,g2⟩:=run_bind h1
     simp only[Rd.run,Option.some.injEq] at g2
     subst g2
     simp at hd
    ·simp[Rd.run] at h1
  ·exact mkArgs_lent h3 d hd
theorem up_head {α:Type} {l:List (Nat×α)} {d:Nat} {x:α} (h:∀ p,p∈l→d<p.1):up l d x=(d,x)::l:=by
 cases l with
 | nil=>rfl
 | cons p r=>
  obtain⟨k,y⟩:=p
  have:d<k:=h (k,y) (by simp)
  simp only[up]
  rw[if_neg (by omega),if_pos this]
theorem del_up_ne {α:Type} {d e:Nat} {x:α} (h:e≠d):∀ {l:List (Nat×α)},Srt l→del (up l d x) e=up (del l e) d x
 | [],_=>by simp[up,del,Ne.symm h]
 | (k,y)::r,hs=>by
  by_cases hk:k=d
  ·subst hk
   simp[up,del,Ne.symm h]
  ·by_cases hlt:d<k
   ·have h1:up ((k,y)::r) d x=(d,x)::(k,y)::r:=by simp only[up,if_neg hk,if_pos hlt]
    rw[h1]
    have h2:del ((d,x)::(k,y)::r) e=(d,x)::del ((k,y)::r) e:=by
     simp only[del,if_neg (Ne.symm h)]
    rw[h2,up_head fun p hp=>?_]
    have:=(del_mem hp).1
    rcases List.mem_cons.1 this with rfl | hp
    ·exact hlt
    ·have:=hs.1 p hp;omega
   ·have h1:up ((k,y)::r) d x=(k,y)::up r d x:=by simp only[up,if_neg hk,if_neg hlt]
    rw[h1]
    by_cases hke:k=e
    ·simp only[del,if_pos hke]
     exact del_up_ne h hs.2
    ·simp only[del,if_neg hke,up,if_neg hk,if_neg hlt]
     rw[del_up_ne h hs.2]
theorem dels_up {d:Nat} {x:Root}:∀ {ds:List Nat} {l:List (Nat×Root)},d∉ds→Srt l→dels (up l d x) ds=up (dels l ds) d x
 | [],l,_,_=>rfl
 | e::ds,l,h,hs=>by
  simp only[List.mem_cons,not_or] at h
  simp only[dels]
  rw[del_up_ne (Ne.symm h.1) hs,dels_up h.2 (del_srt hs)]
theorem blk_same {B B':Blk} {h0:Array Obj} {arr0 arr0':Array Value} {vals0 vals0':List Value} (hb:B'.b=B.b) (hp:B'.pre.length=B.pre.length) (h1:h0[B.b]?=some (.cells arr0 B.el B.fz)) (h2:arr0.toList=B.pre++vals0++B.post)
  (h1':h0[B'.b]?=some (.cells arr0' B'.el B'.fz)) (h2':arr0'.toList=B'.pre++vals0'++B'.post) (hl:vals0'.length=vals0.length):B'=B∧vals0'=vals0:=by
 obtain⟨b,pre,post,el,fz⟩:=B
 obtain⟨b',pre',post',el',fz'⟩:=B'
 simp only at hb hp h1 h2 h1' h2'
 subst hb
 rw[h1] at h1'
 simp only[Option.some.injEq,Obj.cells.injEq] at h1'
 obtain⟨rfl,rfl,rfl⟩:=h1'
 rw[h2,List.append_assoc,List.append_assoc] at h2'
 obtain⟨rfl,h3⟩:=List.append_inj h2' hp.symm
 obtain⟨rfl,rfl⟩:=List.append_inj h3 hl.symm
 exact⟨rfl,rfl⟩
theorem backs_ok {h0:Array Obj} {sz z tick} {w':World} {us:List Value} {args:List Arg} {x0:Cx} {S:Nat→Nat→Prop} {X:List Nat} {Io:Nat→Prop}:∀ {ls:List (Nat×Nat)} {os:List (Nat×List T)} {rt gh FS fo s},Srt rt→distinct (ls.map (·.2))=true→
  (∀ i d,(i,d)∈ls→∃ ro r0 b,lk rt d=some ro∧lk x0.rt d=some r0∧r0.ver=ro.ver∧¬ S d (nxt tick ro)∧(x0.gh d).blk=some b∧us[i]?=some (.pointer (some ⟨Blk.b b,b.pre.length,none⟩))∧ro.real=true∧(∀ ra,(args[i]?).bind (·.root)=some ra→ra.cells.length=ro.cells.length)∧
   ∃ arr0 vals0,h0[b.b]?=some (.cells arr0 b.el b.fz)∧arr0.toList=b.pre++vals0++b.post∧vals0.length=ro.cells.length)→
  HRel sz z (dels rt (ls.map (·.2))) gh w' FS (fo++X)→okOuts sz h0 w'.heap Io args us os fo→(∀ b,Io b→Inow z w' (FS++(fo++X)) b)→comeBack args os ls=some s→
  Keeps x0 ⟨sz,w'.heap,Inow z w' (FS++(fo++X)),dels rt (ls.map (·.2)),gh⟩ S→
  ∃ gh' FS',HRel sz z (setCells tick rt s) gh' w' FS' X∧Keeps x0 ⟨sz,w'.heap,Inow z w' (FS'++X),setCells tick rt s,gh'⟩ S∧∀ b,Inow z w' (FS++(fo++X)) b→Inow z w' (FS'++X) b
 | [],[],rt,gh,FS,fo,s,hs,_,_,r,ho,_,hc,kp=>by
  simp only[comeBack,Option.some.injEq] at hc;subst hc
  simp only[okOuts] at ho;subst ho
  exact⟨gh,FS,r,kp,fun b hb=>hb⟩
 | [],_::_,_,_,_,_,_,_,_,_,_,_,_,hc,_=>by simp[comeBack] at hc
 | (_,_)::_,[],_,_,_,_,_,_,_,_,_,_,_,hc,_=>by simp[comeBack] at hc
 | (j,d)::ls,(i,cs)::os,rt,gh,FS,fo,s,hs,hd,hl,r,ho,hI,hc,kp=>by
  simp only[comeBack] at hc
  split at hc
  ·rename_i hij;subst hij
   split at hc
   ·rename_i ra hra
    split at hc
    ·rename_i hcl
     obtain⟨c1,c2⟩:=hcl
     split at hc
     ·rename_i s' hs'
      simp only[Option.some.injEq] at hc;subst hc
      simp only[List.map_cons,distinct,Bool.and_eq_true,Bool.not_eq_true',List.contains_eq_mem,decide_eq_false_iff_not] at hd
      obtain⟨ro,r0,B,l1,l2,l3,l4,l5,l6,l7,l8,arr0,vals0,l9,l10,l11⟩:=hl i d (by simp)
      obtain⟨B',f1,f2,arr,vals,rfl,o1,o2,o3,o4,o5,⟨arr0',vals0',p1,p2,p3⟩,o6⟩:=ho
      rw[l6] at o1
      simp only[Option.some.injEq,Value.pointer.injEq,Addr.mk.injEq] at o1
      obtain⟨y1,y2,_⟩:=o1
      obtain⟨rfl,rfl⟩:=blk_same y1.symm y2.symm l9 l10 p1 p2 (by rw[(p3 ra hra).1,l8 ra hra,l11])
      simp only[List.map_cons,dels] at r kp
      have hperm:HRel sz z (dels (del rt d) (ls.map (·.2))) gh w' FS ((B'.b::f1)++(f2++X)):=by rw[←List.append_assoc];exact r
      have hno:lk (dels (del rt d) (ls.map (·.2))) d=none:=by rw[lk_dels_ne hd.1];exact lk_del_self rt d
      have happ:(B'.b::f1)++(f2++X)=(B'.b::f1)++f2++X:=(List.append_assoc _ _ _).symm
      obtain⟨FS',k1,k2,k3⟩:=HRel.back (g:=⟨some B',vals⟩) (r1:={ ro with cells:=cs,hver:=nxt tick ro }) (d:=d) (x0:=x0) (S:=S) hperm
       ⟨l7,f1,arr,rfl,o2,o3,o4,okL_agree ⟨fun y hy=>⟨by rw[happ];exact hI y hy,rfl⟩,fun y _=>rfl⟩ o5⟩ hno (by rw[happ];exact kp) l4 ⟨r0,l2,l3,by rw[l5]⟩
      have hlen:cs.length=ro.cells.length:=by rw[c1];exact l8 ra hra
      have hrow:=lentRow_eq (tick:=tick) (cs:=cs) (k:=0) l1 (by intro h;subst h;simp at c2) (by omega)
      have hup:dels (up rt d { ro with cells:=cs,hver:=nxt tick ro }) (ls.map (·.2))=up (dels (del rt d) (ls.map (·.2))) d { ro with cells:=cs,hver:=nxt tick ro }:=by
       rw[←up_del hs,dels_up hd.1 (del_srt hs)]
      rw[←hup] at k1 k3
      obtain⟨gh',FS2,m1,m2,m3⟩:=backs_ok (tick:=tick) (us:=us) (args:=args) (x0:=x0) (S:=S) (X:=X) (Io:=Io) (up_srt hs) hd.2 (fun i' d' hm=>by
       obtain⟨ro',r0',b',n1,n2⟩:=hl i' d' (by simp[hm])
       refine⟨ro',r0',b',?_,n2⟩
       rw[lk_up_ne _ _ _ _ (fun he=>hd.1 (by rw[←he];exact List.mem_map.2 ⟨(i',d'),hm,rfl⟩))]
       exact n1) k1 o6 (fun y hy=>k2 y (by rw[happ];exact hI y hy)) hs' k3
      refine⟨gh',FS2,?_,?_,fun y hy=>m3 y (k2 y (by rw[happ];exact hy))⟩
      ·rw[setCells_append,hrow];simpa using m1
      ·rw[setCells_append,hrow];simpa using m2
     ·simp at hc
    ·simp at hc
   ·simp at hc
  ·simp at hc
theorem okOuts_floats {sz h0 h I I' args us} (hI:∀ b,I b→I' b):∀ {os f},okOuts sz h0 h I args us os f→okOuts sz h0 h I' args us os f
 | [],f,hk=>hk
 | (i,cs)::os,f,hk=>by
  obtain⟨B,f1,f2,arr,vals,rfl,o1,o2,o3,o4,o5,o6,o7⟩:=hk
  exact⟨B,f1,f2,arr,vals,rfl,o1,o2,o3,o4,okL_agree ⟨fun b hb=>⟨hI b hb,rfl⟩,fun _ _=>rfl⟩ o5,o6,okOuts_floats hI o7⟩
theorem okOuts_clean {sz h0 h I I' args us}:∀ {os f},(os.all fun o=>cleanL o.2)=true→okOuts sz h0 h I args us os f→okOuts sz h0 h I' args us os f
 | [],f,_,hk=>hk
 | (i,cs)::os,f,hc,hk=>by
  simp only[List.all_cons,Bool.and_eq_true] at hc
  obtain⟨B,f1,f2,arr,vals,rfl,o1,o2,o3,o4,o5,o6,o7⟩:=hk
  exact⟨B,f1,f2,arr,vals,rfl,o1,o2,o3,o4,okL_clean hc.1 o5,o6,okOuts_clean hc.2 o7⟩
theorem after_I {sz z rt gh w FS X} (r:HRel sz z rt gh w FS X) {z':Zn} {w':World} {X' used:List Nat} (hw:z'.w0=w) (hF:∀ b,b∈z'.F0→b∈X) (hI0:z'.I0=Ileans (Inow z w (FS++X)) FS used) (_fr:Fr z' w')
  (hI:∀ b,Inow z w (FS++X) b→Inow z w' (FS++X') b) {b:Nat} (hb:Inow z' w' X' b):Inow z w' (FS++X') b∨(used≠[]∧b∈FS):=by
 subst hw
 rcases hb with hb | ⟨h1,h2,h3⟩
 ·rw[hI0] at hb
  rcases hb with hb | hb
  ·exact .inl (hI b hb)
  ·exact .inr hb
 ·refine .inl (.inr ⟨?_,h2,fun hm=>?_⟩)
  ·rcases h1 with h1 | h1
   ·exact r.zone b (by simp[hF b h1])
   ·have:=r.fr.size;exact .inr (by omega)
  ·rcases List.mem_append.1 hm with hm | hm
   ·rcases h1 with h1 | h1
    ·have:=r.uniq b
     have h4:=List.count_pos_iff.2 hm
     have h5:=List.count_pos_iff.2 (hF b h1)
     simp only[List.count_append] at this
     omega
    ·have:=r.lt b (by simp[hm]);omega
   ·exact h3 hm
theorem mkArgs_lent2 {E:Env} {rt0:List (Nat×Root)} {x:Cx}:∀ {ts:List T} {i:Nat} {ms:List Mode} {tys:List TypeId} {us:List Value} {l:Lends},(mkArgs E i ms tys ts).run rt0=some l→All2 (okX x) ts us→
  (∀ d r,lk rt0 d=some r→lk x.rt d=some r)→
  ∀ j d,(j,d)∈l.lent→∃ k ro b,j=i+k∧lk rt0 d=some ro∧ro.real=true∧(x.gh d).blk=some b∧us[k]?=some (.pointer (some ⟨Blk.b b,b.pre.length,none⟩))∧(l.args[k]?).bind (·.root)=some ⟨0,1,true,ro.cells⟩
 | [],i,ms,tys,us,l,h,_,_,j,d,hd=>by
  simp only[mkArgs,Rd.run,Option.some.injEq] at h
  subst h
  simp at hd
 | t::ts,i,ms,tys,us,l,h,hk,hx,j,d,hd=>by
  simp only[mkArgs] at h
  obtain⟨q,h1,h2⟩:=run_bind h
  obtain⟨l',h3,h4⟩:=run_bind h2
  simp only[Rd.run,Option.some.injEq] at h4
  subst h4
  obtain⟨u,us',rfl,k1,k2⟩:=hk
  rcases List.mem_append.1 hd with hd | hd
  ·unfold mkArg at h1
   cases m0:ms.headD .R with
   | R=>
    rw[m0] at h1
    obtain⟨⟨t',ds⟩,g1,g2⟩:=run_bind h1
    simp only[Rd.run,Option.some.injEq] at g2
    subst g2
    simp at hd
   | M=>
    rw[m0] at h1
    dsimp only at h1
    split at h1
    ·obtain⟨r0,g1,g2,g3⟩:=run_root h1
     split at g3
     ·rename_i hreal
      simp only[Rd.run,Option.some.injEq] at g3
      subst g3
      simp only[List.mem_singleton,Prod.mk.injEq] at hd
      obtain⟨rfl,rfl⟩:=hd
      obtain⟨b,hb,hu⟩:=k1.2 r0 (hx _ _ g1) g2
      exact⟨0,r0,b,rfl,g1,hreal,hb,by simp[hu],rfl⟩
     ·simp[Rd.run] at g3
    ·simp[Rd.run] at h1
   | L=>rw[m0] at h1;simp[Rd.run] at h1
   | N=>rw[m0] at h1;simp[Rd.run] at h1
   | B=>rw[m0] at h1;simp[Rd.run] at h1
   | P=>
    rw[m0] at h1
    dsimp only at h1
    split at h1
    ·simp only[Rd.run,Option.some.injEq] at h1
     subst h1
     simp at hd
    ·simp[Rd.run] at h1
   | V=>
    rw[m0] at h1
    dsimp only at h1
    split at h1
    ·obtain⟨⟨⟨e,es⟩,s⟩,g1,g2⟩:=run_bind h1
     simp only[Rd.run,Option.some.injEq] at g2
     subst g2
     simp at hd
    ·simp only[Rd.run,Option.some.injEq] at h1
     subst h1
     simp at hd
    ·obtain⟨⟨ts0,ss0⟩,g1,g2⟩:=run_bind h1
     simp only[Rd.run,Option.some.injEq] at g2
     subst g2
     simp at hd
    ·simp[Rd.run] at h1
  ·obtain⟨k,ro,b,y1,y2⟩:=mkArgs_lent2 h3 k2 hx j d hd
   refine⟨k+1,ro,b,by omega,y2.1,y2.2.1,y2.2.2.1,?_,?_⟩
   ·simpa using y2.2.2.2.1
   ·simpa using y2.2.2.2.2
theorem setCells_srt {tick}:∀ {ss:List CSet} {rt:List (Nat×Root)},Srt rt→Srt (setCells tick rt ss)
 | [],_,h=>h
 | s::ss,rt,h=>by
  simp only[setCells]
  refine setCells_srt ?_
  unfold setCell
  split
  ·exact up_srt h
  ·exact h
theorem stX_True {t:T}:stX (fun _ _=>True) t:=by
 have s0:∀ t,st0 (fun _ _=>True) t:=fun t=>by cases t<;>trivial
 have s1:∀ t,st1 (fun _ _=>True) t:=fun t=>by
  cases t<;>first | trivial | exact fun c _=>s0 c
 cases t<;>first | trivial | exact fun c _=>s0 c | exact fun c _=>s1 c
theorem Calls.mono' {P:Program} {f:FuncId} {args:Array Value} {w:World} {K K':Value→World→Prop} (h:Calls P f args w fun | .returned u,w'=>K u w' | _,_=>False) (hk:∀ u w',K u w'→K' u w'):
  Calls P f args w fun | .returned u,w'=>K' u w' | _,_=>False:=
 Calls.mono h fun e w' he=>by cases e<;>first | exact hk _ _ he | exact he
section call
variable {E:Env} {z:Zn} {n tick:Nat} {fr:List (Nat×T)} {rt:List (Nat×Root)} {gh:Nat→G} {w:World} {FS:List Nat} {a:Act}
variable {call:FuncId→List Arg→Option Res} {me:FuncId} {d:Nat} {ty0:TypeId} {e:Eff} {o:Oper}
theorem call_ok (ht:TiOk E) (h:Here E z n tick fr rt gh w FS a) (hcall:∀ f args r,call f args=some r→Sound E f args r) {f:FuncId} {tys:List TypeId} {ts:List T} {us:List Value} (hnl:lends (E.mode f)=false)
  (he:(callEff0 E call me d tick f tys ts).run rt=some e) (hd:EffOk tick rt d e) (hk:All2 (okX ⟨szOf E,w.heap,Inow z w (FS++[]),rt,gh⟩) ts us) (hs:∀ t,t∈ts→stX (Stm tick rt) t):
  Calls E.P f us.toArray w fun | .returned u,w'=>Done E z tick rt (rtOf tick rt d e) gh w FS e.val u w' | _,_=>False:=by
 unfold callEff0 at he
 obtain⟨l,h1,he1⟩:=run_bind he
 clear he
 split at he1
 ·rename_i hc
  simp only[Bool.and_eq_true,List.all_eq_true,Bool.not_eq_true',List.contains_eq_mem,decide_eq_false_iff_not] at hc
  obtain⟨⟨c1,c2⟩,c3⟩:=hc
  split at he1
  ·rename_i r hr
   split at he1
   ·rename_i hcl
    split at he1
    ·rename_i s hback
     simp only[Rd.run,Option.some.injEq] at he1
     have hsets:e.sets=l.sets++s:=by
      rw[←he1,with_sets.2.2]
      have:(sealRes (E.keep me d) d tick r.ret).sets=[]:=by unfold sealRes;split<;>first | exact rooted_sets | rfl
      rw[this];rfl
     obtain⟨a1,a2,a3⟩:=setsApart_append (by rw[←hsets];exact hd.apart:setsApart (l.sets++s)=true)
     obtain⟨FS1,fV,r1,kp1,pre⟩:=mkArgs_takes (tick:=tick) (D:=[]) ht h.heap (Pres.refl rt) h1 a1 (fun s _=>by simp) hk hs
     have hun:∀ e,e∉l.sets.map (·.d)→lk (setCells tick rt l.sets) e=lk rt e:=fun e he=>setCells_other he
     have hlent:∀ e,e∈l.lent.map (·.2)→lk (setCells tick rt l.sets) e=lk rt e:=fun e he=>hun e (c2 e he)
     obtain⟨FS2,fM,r2,hI2,kp2,lents⟩:=dels_ok r1 c1 (fun e he=>by rw[hlent e he];exact mkArgs_lent h1 e he)
     have hrt2:∀ e,e∉l.lent.map (·.2)→lk (dels (setCells tick rt l.sets) (l.lent.map (·.2))) e=lk (setCells tick rt l.sets) e:=fun e he=>lk_dels_ne he
     obtain⟨f0,g1,g2⟩:=mkArgs_all (E:=E) (rt0:=rt) (gh:=gh) (w:=w) (sz:=szOf E) (I':=Inow z w (FS2++(fM++(fV++[])))) (I'':=Ileans (Inow z w (FS2++(fM++(fV++[])))) FS2 l.used) (rt':=setCells tick rt l.sets)
      (x':=⟨szOf E,w.heap,Inow z w (FS1++(fV++[])),setCells tick rt l.sets,gh⟩) h1
      (okPre_agree ⟨fun b hb=>⟨(hI2 b).1 hb,rfl⟩,fun b _=>rfl⟩ pre) lents (fun b hb=>.inl hb) hlent
      (fun t t' u ty ds _ hx hseal hu=>by
       have hx2:=kp2.x stX_True hx
       obtain⟨n1,n2⟩:=nilOf_ok ht (S:=fun _ _=>True) (ty:=ty) hx2 stX_True
       have hcg:=seal2_congr (rt':=dels (setCells tick rt l.sets) (l.lent.map (·.2))) hseal (fun e he=>by
        obtain⟨y1,y2⟩:=c3 e (hu e he)
        rw[hrt2 e y1,hun e y2])
       exact okV_leans (seal2_ok r2 n1 hcg) (fun hne=>by
        obtain⟨e,he⟩:=List.exists_mem_of_ne_nil ds hne
        exact List.ne_nil_of_mem (hu e he)))
      (fun e ver u hx r' hl hv hsame=>hx.2 r' (by rw[hsame];exact hl) hv)
      (hk.imp fun t u hm hx=>kp1.x (hs t hm) hx)
     have hmem:∀ b,b∈f0→b∈fM++(fV++[]):=fun b hb=>by
      have h1:=List.count_pos_iff.2 hb
      have h2:=g2 b
      rw[←List.count_pos_iff]
      simp only[List.count_append,List.count_nil]
      omega
     have hz':∀ b,Ileans (Inow z w (FS2++(fM++(fV++[])))) FS2 l.used b→b<w.heap.size∧b∉f0:=fun b hb=>by
      rcases hb with hb | hb
      ·exact⟨(r2.imm hb).1,fun hm=>(r2.imm hb).2 (List.mem_append.2 (.inr (hmem b hm)))⟩
      ·refine⟨r2.lt b (List.mem_append.2 (.inl hb.2)),fun hm=>?_⟩
       have h1:=r2.uniq b
       have h2:=List.count_pos_iff.2 hb.2
       have h3:=List.count_pos_iff.2 (hmem b hm)
       simp only[List.count_append] at h1 h3
       omega
     have hsound:=(hcall f l.args r hr).old hnl ⟨w,f0,Ileans (Inow z w (FS2++(fM++(fV++[])))) FS2 l.used,hz',fun g p hg=>⟨.inl (r2.gok g p hg).1,(r2.gok g p hg).2⟩⟩ us
      (fun b=>by
       have h1:=r2.uniq b
       have h2:=g2 b
       simp only[List.count_append,List.count_nil] at h1
       show f0.count b≤1
       omega)
      (fun b hb=>r2.lt b (List.mem_append.2 (.inr (hmem b hb)))) g1
     refine Calls.mono' hsound fun u w' back=>?_
     obtain⟨bfr,⟨f',fo,b1,b2,b3,b4⟩,bcl⟩:=back
     obtain⟨r3,kp3,hI3⟩:=r2.after (X':=f'++fo) rfl hmem bfr b3 b4
     have hI4:=fun b hb=>after_I (X':=f'++fo) (b:=b) r2 rfl hmem rfl bfr hI3 hb
     have hret:okV (szOf E) w'.heap (Inow z w' (FS2++(f'++fo))) r.ret u f'∧okOuts (szOf E) w.heap w'.heap (Inow z w' (FS2++(f'++fo))) l.args us r.outs fo:=by
      rcases Bool.or_eq_true_iff.1 hcl with hx | hx
      ·simp only[Bool.and_eq_true] at hx
       exact⟨okV_clean (bcl hx.1) b1,okOuts_clean hx.2 b2⟩
      ·have hu:l.used=[]:=by simpa using hx
       have hag:∀ b,Inow ⟨w,f0,Ileans (Inow z w (FS2++(fM++(fV++[])))) FS2 l.used,hz',fun g p hg=>⟨.inl (r2.gok g p hg).1,(r2.gok g p hg).2⟩⟩ w' (f'++fo) b→Inow z w' (FS2++(f'++fo)) b:=fun b hb=>by
        rcases hI4 b hb with h | h
        ·exact h
        ·exact absurd hu h.1
       exact⟨okV_agree ⟨fun b hb=>⟨hag b hb,rfl⟩,fun b _=>rfl⟩ b1,okOuts_floats hag b2⟩
     obtain⟨r4,hI5⟩:=r3.perm (X':=fo++(f'++[])) fun x=>by simp only[List.count_append,List.count_nil];omega
     have kp4:Keeps ⟨szOf E,w.heap,Inow z w (FS++[]),rt,gh⟩ ⟨szOf E,w'.heap,Inow z w' (FS2++(fo++(f'++[]))),dels (setCells tick rt l.sets) (l.lent.map (·.2)),gh⟩ (Stm tick rt):=
      (kp1.trans (kp2.trans (kp3.trans (r3.keeps_refl (fun _ _=>True) fun b hb=>(hI5 b).1 hb) fun _ _ h=>h) fun _ _ h=>h) fun _ _ _=>trivial)
     obtain⟨gh',FS3,r5,kp5,hI6⟩:=backs_ok (h0:=w.heap) (tick:=tick) (us:=us) (args:=l.args) (S:=Stm tick rt) (by exact setCells_srt h.heap.srt) c1
      (fun j dd hm=>by
       obtain⟨k,ro,b,rfl,y1,y2,y3,y4,y5⟩:=mkArgs_lent2 h1 hk (fun _ _ h=>h) j dd hm
       have hdm:dd∈l.lent.map (·.2):=List.mem_map.2 ⟨_,hm,rfl⟩
       refine⟨ro,ro,b,by rw[hlent dd hdm];exact y1,y1,rfl,fun hS=>?_,y3,by simpa using y4,y2,fun ra hra=>?_,?_⟩
       ·have hS1:=hS.1
        unfold nxt at hS hS1
        split at hS
        ·rename_i hlt
         rw[if_pos hlt] at hS1
         obtain⟨r7,q6,q7⟩:=hS.2 rfl
         rw[y1] at q6
         simp only[Option.some.injEq] at q6
         subst q6
         omega
        ·rename_i hlt
         rw[if_neg hlt] at hS1
         omega
       ·rw[Nat.zero_add] at hra
        rw[y5] at hra
        simp only[Option.some.injEq] at hra
        rw[←hra]
       ·obtain⟨fx,w1,_⟩:=okRts_get h.heap.roots y1
        have y3:(gh dd).blk=some b:=y3
        unfold okRoot at w1
        rw[y3] at w1
        obtain⟨_,fs',arr,_,v1,_,v3,v4⟩:=w1
        exact⟨arr,(gh dd).vals,v1,v3,okL_length v4⟩)
      r4 hret.2 (fun b hb=>(hI5 b).1 hb) hback kp4
     rw[←setCells_append] at r5 kp5
     have hv:okV (szOf E) w'.heap (Inow z w' (FS3++(f'++[]))) r.ret u f':=okV_agree ⟨fun b hb=>⟨hI6 b ((hI5 b).1 hb),rfl⟩,fun b _=>rfl⟩ hret.1
     have sl:Slot (szOf E) z tick d (setCells tick rt (l.sets++s)) gh' w' (Inow z w' (FS3++(f'++[]))) (sealRes (E.keep me d) d tick r.ret) u:=by
      unfold sealRes
      cases hkp:E.keep me d with
      | true=>
       simp only[if_true]
       exact slot_ok r5 hv (fun hsome r0 h0=>by
        obtain⟨rr,hrr⟩:=Option.isSome_iff_exists.1 hsome
        exact newOk_lt (hd.new rr (by rw[←he1,with_sets.2.1];unfold sealRes;rw[hkp];exact hrr)) h0)
      | false=>
       simp only[Bool.false_eq_true,if_false]
       obtain⟨_,hI7⟩:=drop_floats r5
       have hseal:=okV_seal (I':=Inow z w' (FS3++[])) hI7 (fun b hb=>.inr ⟨r5.zone b (by simp[hb]),r5.lt b (by simp[hb]),fun hm=>by
        have h1:=r5.uniq b
        have h2:=List.count_pos_iff.2 hb
        have h3:=List.count_pos_iff.2 hm
        simp only[List.count_append,List.count_nil] at h1 h3
        omega⟩) hv
       have h0:=okV_0 (x:=⟨szOf E,w'.heap,Inow z w' (FS3++[]),setCells tick rt (l.sets++s),gh'⟩) (S:=Stm tick (setCells tick rt (l.sets++s))) hseal
       exact slot_plain r5 h0.1 h0.2
     obtain⟨gh2,FS4,z1,z2,z3,z4⟩:=sl
     have hroot:e.root=(sealRes (E.keep me d) d tick r.ret).root:=by rw[←he1];rfl
     have hval:e.val=(sealRes (E.keep me d) d tick r.ret).val:=by rw[←he1];rfl
     show Done _ _ _ _ _ _ _ _ _ _ _
     rw[rtOf_eq,hsets,hroot,hval]
     exact⟨gh2,FS4,z1,kp5.trans z2 fun a b h=>Stm_sets a b h,z3,z4⟩
    ·simp[Rd.run] at he1
   ·simp[Rd.run] at he1
  ·simp[Rd.run] at he1
 ·simp[Rd.run] at he1
end call
theorem skL_put {sz h' h}:∀ {cs' cs vs' vs} {c:Nat} {t0 t':T},skL sz h' h cs' cs vs' vs→cs'[c]?=some t0→
  (∀ t u' u,cs[c]?=some t→vs'[c]?=some u'→vs[c]?=some u→(isOwn t'=true→u'=u)∧skV sz h' h t' t u)→skL sz h' h (cs'.set c t') cs vs' vs
 | [],cs,vs',vs,c,t0,t',_,h2,_=>by simp at h2
 | c0::cs',cs,vs',vs,0,t0,t',h1,_,h3=>by
  simp only[skL] at h1
  obtain⟨d,ct,u',ut',u,ut,rfl,rfl,rfl,h4,h5,h6⟩:=h1
  obtain⟨g1,g2⟩:=h3 d u' u rfl rfl rfl
  simp only[List.set_cons_zero,skL]
  exact⟨d,ct,u',ut',u,ut,rfl,rfl,rfl,g1,g2,h6⟩
 | c0::cs',cs,vs',vs,c+1,t0,t',h1,h2,h3=>by
  simp only[skL] at h1
  obtain⟨d,ct,u',ut',u,ut,rfl,rfl,rfl,h4,h5,h6⟩:=h1
  simp only[List.getElem?_cons_succ] at h2 h3
  simp only[List.set_cons_succ,skL]
  exact⟨d,ct,u',ut',u,ut,rfl,rfl,rfl,h4,h5,skL_put h6 h2 h3⟩
theorem skEs_put {sz h' h} {s:Nat}:∀ {es' es l' l} {i:Nat} {c0 c':List T},skEs sz h' h s es' es l' l→es'[i]?=some c0→
  (∀ c,es[i]?=some c→skL sz h' h c' c ((l'.drop (i*s)).take s) ((l.drop (i*s)).take s))→skEs sz h' h s (es'.set i c') es l' l
 | [],es,l',l,i,c0,c',_,h2,_=>by simp at h2
 | e0::es',es,l',l,0,c0,c',h1,h2,h3=>by
  simp only[skEs] at h1
  obtain⟨d,et,rfl,h4,h5⟩:=h1
  have:=h3 d rfl
  simp only[Nat.zero_mul,List.drop_zero] at this
  simp only[List.set_cons_zero,skEs]
  exact⟨d,et,rfl,this,h5⟩
 | e0::es',es,l',l,i+1,c0,c',h1,h2,h3=>by
  simp only[skEs] at h1
  obtain⟨d,et,rfl,h4,h5⟩:=h1
  simp only[List.getElem?_cons_succ] at h2 h3
  have e1:(i+1)*s=s+i*s:=by rw[Nat.add_mul,Nat.one_mul,Nat.add_comm]
  simp only[List.set_cons_succ,skEs]
  refine⟨d,et,rfl,h4,skEs_put h5 h2 fun c hc=>?_⟩
  have:=h3 c hc
  rw[e1,←List.drop_drop,←List.drop_drop] at this
  exact this
theorem sk_graft {sz h' h} {f:List T→Option (List T)}:∀ {p:List (Nat×Nat)} {cs' cs vs' vs ad c2},skL sz h' h cs' cs vs' vs→graft f cs' p=some c2→
  (∀ k' v' a' k v a k2,loc sz h' cs' vs' ad p=some (k',v',a')→loc sz h cs vs ad p=some (k,v,a)→f k'=some k2→skL sz h' h k2 k v' v)→skL sz h' h c2 cs vs' vs
 | [],cs',cs,vs',vs,ad,c2,_,h2,h3=>by
  simp only[graft] at h2
  exact h3 cs' vs' ad cs vs ad c2 rfl rfl h2
 | (c,i)::rest,cs',cs,vs',vs,ad,c2,h1,h2,h3=>by
  simp only[graft] at h2
  cases hc:cs'[c]? with
  | none=>rw[hc] at h2;simp at h2
  | some t'=>
   rw[hc] at h2
   cases t' with
   | own e es'=>
    simp only at h2
    cases hi:es'[i]? with
    | none=>rw[hi] at h2;simp at h2
    | some ci=>
     rw[hi] at h2
     simp only at h2
     cases hg:graft f ci rest with
     | none=>rw[hg] at h2;simp at h2
     | some ci2=>
      rw[hg] at h2
      simp only[Option.some.injEq] at h2
      subst h2
      obtain⟨t,u',u,g1,g2,g3,g4,g5⟩:=skL_get h1 hc
      have hu:=g4 rfl
      subst hu
      refine skL_put h1 hc fun t1 u1 u2 q1 q2 q3=>?_
      rw[g1] at q1;rw[g2] at q2;rw[g3] at q3
      simp only[Option.some.injEq] at q1 q2 q3
      subst q1;subst q2;subst q3
      refine⟨fun _=>rfl,?_⟩
      simp only[skV] at g5 ⊢
      obtain⟨es,rfl,hl,g6⟩:=g5
      refine⟨es,rfl,by simpa using hl,.inr ?_⟩
      rcases g6 with rfl | ⟨b,o,n,cap,arr',el',fz',arr,el,fz,rfl,m1,m2,m3⟩
      ·simp at hi
      ·refine⟨b,o,n,cap,arr',el',fz',arr,el,fz,rfl,m1,m2,skEs_put m3 hi fun c0 hc0=>?_⟩
       obtain⟨c1,r1,r2⟩:=skEs_get m3 hi
       rw[hc0] at r1
       simp only[Option.some.injEq] at r1
       subst r1
       rw[List.drop_drop,List.drop_drop] at r2 ⊢
       refine sk_graft (ad:=some (b,o+i*sz e)) r2 hg fun k' v' a' k v a k2 w1 w2 w3=>h3 k' v' a' k v a k2 ?_ ?_ w3
       ·simp only[loc,hc,g2,hi,m1];exact w1
       ·simp only[loc,g1,g3,hc0,m2];exact w2
   | _=>simp at h2
def putCells:Nat→List T→List T→List T
 | _,_,[]=>[]
 | k+1,r,c::cs=>c::putCells k r cs
 | 0,[],cs=>cs
 | 0,t::r,c::cs=>(if isOwn t then t else c)::putCells 0 r cs
def LendT (sz:TypeId→Nat) (h:Array Obj) (I:Nat→Prop) (cs:List T) (vs:List Value) (f:List Nat) (row:List T) (us:List Value) (new:List T→Option (List T)):Prop:=
 ∃ fm fr,Both f fm fr∧okL sz h I row us fm∧∀ h' I' row' fm' cs',(∀ b,I b→I' b∧h'[b]?=h[b]?)→(∀ b,b∈fr→h'[b]?=h[b]?)→new row'=some cs'→
  okL sz h' I' row' us fm'→skL sz h' h row' row us us→∃ f1,okL sz h' I' cs' vs f1∧Both f1 fm' fr∧skL sz h' h cs' cs vs vs
def LV:List T→List Value→List Value→Prop
 | [],us,_=>us=[]
 | t::ts,us,vs=>∃ u us',us=u::us'∧(∀ x,t=.v x→u=x)∧((∀ x,t≠.v x)→∃ vs',vs=u::vs')∧LV ts us' (vs.drop 1)
theorem lendT_0 {sz h I} {d ver:Nat}:∀ {views cs row us vs f k},okL sz h I cs vs f→lendRow d ver k views cs=some row→LV views us vs→
  LendT sz h I cs vs f row us (fun row'=>if row'.map isOwn=row.map isOwn∧row'.all lentCell=true then some (putCells 0 row' cs) else none)
 | [],cs,row,us,vs,f,k,hk,hr,hv=>by
  simp only[lendRow,Option.some.injEq] at hr
  subst hr
  simp only[LV] at hv
  subst hv
  refine⟨[],f,fun x=>by simp,⟨rfl,rfl⟩,fun h' I' row' fm' cs' hI hf hn ho hs=>?_⟩
  dsimp only at hn
  split at hn
  ·rename_i hm
   simp only[List.map_nil,List.map_eq_nil_iff] at hm
   obtain⟨rfl,_⟩:=hm
   simp only[Option.some.injEq] at hn
   have e:putCells 0 [] cs=cs:=by cases cs<;>rfl
   rw[e] at hn
   subst hn
   simp only[okL] at ho
   obtain⟨_,rfl⟩:=ho
   exact⟨f,okL_agree ⟨hI,hf⟩ hk,fun x=>by simp,skL_refl hf hk⟩
  ·simp at hn
 | t::ts,[],row,us,vs,f,k,hk,hr,hv=>by simp[lendRow] at hr
 | t::ts,c::cs,row,us,vs,f,k,hk,hr,hv=>by
  simp only[lendRow] at hr
  split at hr
  ·rename_i x hx
   split at hr
   ·rename_i xs hxs
    simp only[Option.some.injEq] at hr
    subst hr
    obtain⟨u,us',rfl,v1,v2,v3⟩:=hv
    simp only[okL] at hk
    obtain⟨v,vs',f1,f2,rfl,rfl,k1,k2⟩:=hk
    obtain⟨fm,fr,q1,q2,q3⟩:=lendT_0 k2 hxs v3
    by_cases hown:isOwn x=true
    ·
     have hcx:x=c∧u=v:=by
      unfold lendCell at hx
      split at hx
      ·split at hx
       ·simp only[Option.some.injEq] at hx
        obtain⟨vs2,e⟩:=v2 (fun y hy=>by simp at hy)
        simp only[List.cons.injEq] at e
        exact⟨hx.symm,e.1.symm⟩
       ·simp at hx
      ·split at hx
       ·simp only[Option.some.injEq] at hx
        subst hx
        simp[isOwn] at hown
       ·simp at hx
      ·simp at hx
     obtain⟨rfl,rfl⟩:=hcx
     refine⟨f1++fm,fr,fun y=>by have:=q1 y;simp only[List.count_append] at *;omega,⟨u,us',f1,fm,rfl,rfl,k1,q2⟩,fun h' I' row' fm' cs' hI hf hn ho hs=>?_⟩
     dsimp only at hn
     split at hn
     ·rename_i hm
      cases row' with
      | nil=>simp at hm
      | cons t' r'=>
       simp only[List.map_cons,List.cons.injEq,List.all_cons,Bool.and_eq_true] at hm
       obtain⟨hm,hm1,hm2⟩:=hm
       simp only[Option.some.injEq,putCells,hm.1,hown,if_true] at hn
       subst hn
       simp only[okL] at ho
       obtain⟨u0,us0,g1,g2,e1,rfl,o1,o2⟩:=ho
       simp only[List.cons.injEq] at e1
       obtain⟨rfl,rfl⟩:=e1
       simp only[skL] at hs
       obtain⟨y,yt,u1,ut1,u2,ut2,e2,e3,e4,s1,s2,s3⟩:=hs
       simp only[List.cons.injEq] at e2 e3 e4
       obtain⟨rfl,rfl⟩:=e2
       obtain⟨rfl,rfl⟩:=e3
       obtain⟨rfl,rfl⟩:=e4
       obtain⟨f1',p1,p2,p3⟩:=q3 h' I' r' g2 _ hI hf (if_pos ⟨hm.2,hm2⟩) o2 s3
       refine⟨g1++f1',⟨u,vs',g1,f1',rfl,rfl,o1,p1⟩,fun y=>by have:=p2 y;simp only[List.count_append] at *;omega,?_⟩
       simp only[skL]
       exact⟨x,cs,u,vs',u,vs',rfl,rfl,rfl,fun _=>rfl,s2,p3⟩
     ·simp at hn
    ·have hxv:∃ y,x=.v y∧t=.v y:=by
      unfold lendCell at hx
      split at hx
      ·split at hx
       ·simp only[Option.some.injEq] at hx
        subst hx
        simp[isOwn] at hown
       ·simp at hx
      ·split at hx
       ·simp only[Option.some.injEq] at hx
        exact⟨_,hx.symm,rfl⟩
       ·simp at hx
      ·simp at hx
     obtain⟨y,rfl,rfl⟩:=hxv
     have hu:=v1 y rfl
     subst hu
     refine⟨fm,f1++fr,fun y=>by have:=q1 y;simp only[List.count_append] at *;omega,⟨u,us',[],fm,rfl,rfl,by simp only[okV];trivial,q2⟩,fun h' I' row' fm' cs' hI hf hn ho hs=>?_⟩
     dsimp only at hn
     split at hn
     ·rename_i hm
      cases row' with
      | nil=>simp at hm
      | cons t' r'=>
       simp only[List.map_cons,List.cons.injEq,List.all_cons,Bool.and_eq_true] at hm
       obtain⟨hm,hm1,hm2⟩:=hm
       have hno:isOwn t'=false:=by rw[hm.1];rfl
       simp only[Option.some.injEq,putCells,hno,Bool.false_eq_true,if_false] at hn
       subst hn
       simp only[okL] at ho
       obtain⟨u0,us0,g1,g2,e1,rfl,o1,o2⟩:=ho
       simp only[List.cons.injEq] at e1
       obtain⟨rfl,rfl⟩:=e1
       simp only[skL] at hs
       obtain⟨y,yt,u1,ut1,u2,ut2,e2,e3,e4,s1,s2,s3⟩:=hs
       simp only[List.cons.injEq] at e2 e3 e4
       obtain⟨rfl,rfl⟩:=e2
       obtain⟨rfl,rfl⟩:=e3
       obtain⟨rfl,rfl⟩:=e4
       obtain⟨f1',p1,p2,p3⟩:=q3 h' I' r' g2 _ hI (fun b hb=>hf b (by simp[hb])) (if_pos ⟨hm.2,hm2⟩) o2 s3
       have hg:g1=[]:=by cases t'<;>simp[lentCell] at hm1<;>first | (simp[isOwn] at hno;done) | (simp only[okV] at o1;exact o1.2)
       subst hg
       refine⟨f1++f1',⟨v,vs',f1,f1',rfl,rfl,okV_agree ⟨hI,fun b hb=>hf b (by simp[hb])⟩ k1,p1⟩,fun y=>by have:=p2 y;simp only[List.count_append,List.nil_append] at *;omega,?_⟩
       simp only[skL]
       exact⟨c,cs,v,vs',v,vs',rfl,rfl,rfl,fun _=>rfl,skV_refl (fun b hb=>hf b (by simp[hb])) k1,p3⟩
     ·simp at hn
   ·simp at hr
  ·simp at hr
theorem lendT_row {sz h I} {d ver:Nat} {views:List T} {row us}:∀ {k j cs vs f},okL sz h I cs vs f→lendRow d ver j views (cs.drop k)=some row→LV views us (vs.drop k)→
  LendT sz h I cs vs f row us (fun row'=>if row'.map isOwn=row.map isOwn∧row'.all lentCell=true then some (putCells k row' cs) else none)
 | 0,j,cs,vs,f,hk,hr,hv=>lendT_0 hk hr hv
 | k+1,j,[],vs,f,hk,hr,hv=>by
  have e:vs=[]:=by simp only[okL] at hk;exact hk.1
  subst e
  obtain⟨fm,fr,q1,q2,q3⟩:=lendT_0 hk (by simpa using hr) (by simpa using hv)
  refine⟨fm,fr,q1,q2,fun h' I' row' fm' cs' hI hf hn ho hs=>q3 h' I' row' fm' cs' hI hf ?_ ho hs⟩
  dsimp only at hn ⊢
  exact hn
 | k+1,j,c::cs,vs,f,hk,hr,hv=>by
  simp only[okL] at hk
  obtain⟨v,vs',f1,f2,rfl,rfl,k1,k2⟩:=hk
  obtain⟨fm,fr,q1,q2,q3⟩:=lendT_row (k:=k) k2 (by simpa using hr) (by simpa using hv)
  refine⟨fm,f1++fr,fun y=>by have:=q1 y;simp only[List.count_append] at *;omega,q2,fun h' I' row' fm' cs' hI hf hn ho hs=>?_⟩
  dsimp only at hn
  split at hn
  ·rename_i hm
   simp only[Option.some.injEq,putCells] at hn
   subst hn
   obtain⟨f1',p1,p2,p3⟩:=q3 h' I' row' fm' _ hI (fun b hb=>hf b (by simp[hb])) (if_pos hm) ho hs
   refine⟨f1++f1',⟨v,vs',f1,f1',rfl,rfl,okV_agree ⟨hI,fun b hb=>hf b (by simp[hb])⟩ k1,p1⟩,fun y=>by have:=p2 y;simp only[List.count_append] at *;omega,?_⟩
   simp only[skL]
   exact⟨c,cs,v,vs',v,vs',rfl,rfl,rfl,fun _=>rfl,skV_refl (fun b hb=>hf b (by simp[hb])) k1,p3⟩
  ·simp at hn
theorem graft_graft {f g g2:List T→Option (List T)} (hfg:∀ k k1,f k=some k1→g k1=g2 k):∀ {p:List (Nat×Nat)} {cs c1},graft f cs p=some c1→graft g c1 p=graft g2 cs p
 | [],cs,c1,h=>by simp only[graft] at h ⊢;exact hfg _ _ h
 | (c,i)::rest,cs,c1,h=>by
  simp only[graft] at h
  split at h
  ·rename_i e es hc
   split at h
   ·rename_i cs' hi
    split at h
    ·rename_i cs'' hg
     simp only[Option.some.injEq] at h
     subst h
     have hlt:c<cs.length:=(List.getElem?_eq_some_iff.1 hc).1
     have hli:i<es.length:=(List.getElem?_eq_some_iff.1 hi).1
     simp only[graft,List.getElem?_set_self hlt,hc,List.getElem?_set_self hli,hi,graft_graft hfg hg,List.set_set]
    ·simp at h
   ·simp at h
  ·simp at h
theorem descend_graft {f:List T→Option (List T)}:∀ {p:List (Nat×Nat)} {cs c1 k},graft f cs p=some c1→descend cs p=some k→∃ k1,f k=some k1∧descend c1 p=some k1
 | [],cs,c1,k,h,hd=>by
  simp only[graft,descend,Option.some.injEq] at h hd ⊢
  subst hd
  exact⟨c1,h,rfl⟩
 | (c,i)::rest,cs,c1,k,h,hd=>by
  simp only[graft] at h
  split at h
  ·rename_i e es hc
   split at h
   ·rename_i cs' hi
    split at h
    ·rename_i cs'' hg
     simp only[Option.some.injEq] at h
     subst h
     have hlt:c<cs.length:=(List.getElem?_eq_some_iff.1 hc).1
     have hli:i<es.length:=(List.getElem?_eq_some_iff.1 hi).1
     simp only[descend,hc,hi] at hd
     obtain⟨k1,h1,h2⟩:=descend_graft hg hd
     exact⟨k1,h1,by simp only[descend,List.getElem?_set_self hlt,List.getElem?_set_self hli];exact h2⟩
    ·simp at h
   ·simp at h
  ·simp at h
def newDeep (cs:List T) (c0 i:Nat) (rest:List (Nat×Nat)) (t0:T) (c:Nat) (row':List T):Option (List T):=
 match row' with
 | [t']=>match graft (fun x=>some (x.set c t')) [t0] ((0,i)::rest) with
  | some [t1]=>some (cs.set c0 t1)
  | _=>none
 | _=>none
theorem lendT_deep {sz h I} {cs vs f c0 i rest t0 cp c e es u} (hL:okL sz h I cs vs f) (huf:Uniq f) (hc:cs[c0]?=some t0) (hd:descend [t0] ((0,i)::rest)=some cp) (hcp:cp[c]?=some (.own e es))
  (hu:∀ vsp ad,loc sz h cs vs none ((c0,i)::rest)=some (cp,vsp,ad)→vsp[c]?=some u):
  LendT sz h I cs vs f [.own e es] [u] (newDeep cs c0 i rest t0 c):=by
 obtain⟨u0,fo,fr0,v0,q0,k0,rb0⟩:=okL_focus hL hc
 have hufo:=q0.uniq_l huf
 obtain⟨b,o,arr,el,fz,fp,R,l1,l2,l3,l4,l5,q1,k1,rb1⟩:=path_ok (ad:=none) (by simp) (okL_one.2 k0) hufo hd
 obtain⟨u',fm,frp,v2,q2,k2,rb2⟩:=okL_focus k1 hcp
 have hloc:loc sz h cs vs none ((c0,i)::rest)=some (cp,(arr.toList.drop o).take cp.length,some (b,o)):=by rw[loc_head (ad':=none) hc v0];exact l1
 have hu':=hu _ _ hloc
 rw[v2] at hu'
 simp only[Option.some.injEq] at hu'
 subst hu'
 have hw:((arr.toList.drop o).take cp.length).length=cp.length:=okL_length k1
 have hwin:∀ x:Nat,arr.toList=arr.toList.take o++(arr.toList.drop o).take cp.length++arr.toList.drop (o+cp.length):=fun _=>by
  rw[List.append_assoc,←List.drop_drop,List.take_append_drop,List.take_append_drop]
 obtain⟨fd,d1,d2⟩:=rb2 h I .dead u' [] ⟨fun x hx=>⟨hx,rfl⟩,fun x _=>rfl⟩ (by simp only[okV])
 rw[set_self v2] at d1
 obtain⟨csd,fsd,e1,e2,e3⟩:=rb1 h I (cp.set c .dead) _ fd arr (fun x=>some (x.set c .dead)) rfl (fun x hx=>⟨hx,rfl⟩) (fun x _ _=>rfl) l2 rfl (hwin 0) (by simp) d1
 have hcsd:∃ td,csd=[td]:=by
  have:=okL_length e2
  match csd,this with
  | [td],_=>exact⟨td,rfl⟩
 obtain⟨td,rfl⟩:=hcsd
 have sk0:skL sz h h [td] [t0] [u0] [u0]:=path_sk (g:=fun x=>some (x.set c .dead)) (c1:=cp.set c .dead) (ad:=none) (by simp) (okL_one.2 k0) hufo hd l1 l2 l4 (fun x _ _=>rfl) l2 (hwin 0) hw rfl (by simp)
  (by
   have:=skL_set (h':=h) (t':=.dead) (u':=u') k1 hcp v2 fun _ _ _ _=>⟨fun b _=>rfl,fun h=>by simp[isOwn] at h,by simp only[skV]⟩
   rw[set_self v2] at this
   exact this) e1
 refine⟨fm,frp++(R++fr0),fun x=>by have:=q0 x;have:=q1 x;have:=q2 x;simp only[List.count_append];omega,okL_one.2 k2,fun h' I' row' fm' cs' hI hf hn ho hs=>?_⟩
 unfold newDeep at hn
 split at hn
 ·rename_i t'
  have ho':=okL_one.1 ho
  obtain⟨f2,p1,p2⟩:=rb2 h' I' t' u' fm' ⟨hI,fun x hx=>hf x (by simp[hx])⟩ ho'
  rw[set_self v2] at p1
  have hb:h'[b]?=some (.cells arr el fz):=by rw[hf b (by simp[l5])];exact l2
  obtain⟨cs2,fs2,g1,g2,g3⟩:=rb1 h' I' (cp.set c t') _ f2 arr (fun x=>some (x.set c t')) rfl hI (fun x hx _=>hf x (by simp[hx])) hb rfl (hwin 0) (by simp) p1
  have hcs2:∃ t1,cs2=[t1]:=by
   have:=okL_length g2
   match cs2,this with
   | [t1],_=>exact⟨t1,rfl⟩
  obtain⟨t1,rfl⟩:=hcs2
  rw[g1] at hn
  simp only[Option.some.injEq] at hn
  subst hn
  obtain⟨f3,r1,r2⟩:=rb0 h' I' t1 u0 fs2 ⟨hI,fun x hx=>hf x (by simp[hx])⟩ (okL_one.1 g2)
  rw[set_self v0] at r1
  refine⟨f3,r1,fun x=>by have:=r2 x;have:=g3 x;have:=p2 x;simp only[List.count_append];omega,?_⟩
  have hfsd:∀ x,x∈fsd→h'[x]?=h[x]?:=fun x hx=>by
   rcases (e3.mem x).1 hx with hx | hx
   ·rcases (d2.mem x).1 hx with hx | hx
    ·simp at hx
    ·exact hf x (by simp[hx])
   ·exact hf x (by simp[hx])
  have sk1:skL sz h' h [td] [t0] [u0] [u0]:=skL_trans (skL_refl hfsd e2) sk0
  have hudd:Uniq fsd:=fun x=>by
   have h1:=huf x
   have h2:=q0 x;have h3:=q1 x;have h4:=q2 x;have h5:=d2 x;have h6:=e3 x
   simp only[List.count_nil] at h5
   omega
  obtain⟨kd,hkd,hdd⟩:=descend_graft e1 hd
  simp only[Option.some.injEq] at hkd
  subst hkd
  have sk2:skL sz h' h [t1] [t0] [u0] [u0]:=by
   have hgg:graft (fun x=>some (x.set c t')) [td] ((0,i)::rest)=some [t1]:=by
    rw[graft_graft (g2:=fun x=>some (x.set c t')) (fun k k1 hk=>by simp only[Option.some.injEq] at hk;subst hk;simp) e1]
    exact g1
   refine sk_graft (ad:=none) sk1 hgg fun k' v' a' k v a k2' w1 w2 w3=>?_
   rw[l1] at w2
   simp only[Option.some.injEq,Prod.mk.injEq] at w2
   obtain⟨rfl,rfl,_⟩:=w2
   simp only[Option.some.injEq] at w3
   subst w3
   obtain⟨b',o',arr',el',fz',fp',R',m1,m2,_,_,_,_,_,_⟩:=path_ok (ad:=none) (by simp) (okL_agree (h':=h') (I':=I') ⟨hI,hfsd⟩ e2) hudd hdd
   obtain⟨kk,vv,n1,n2⟩:=sk_loc sk1 w1
   rw[l1] at n1
   simp only[Option.some.injEq,Prod.mk.injEq] at n1
   obtain⟨rfl,rfl,rfl⟩:=n1
   rw[m1] at w1
   simp only[Option.some.injEq,Prod.mk.injEq] at w1
   obtain⟨rfl,rfl,e4,rfl⟩:=w1
   subst e4
   rw[hb] at m2
   simp only[Option.some.injEq,Obj.cells.injEq] at m2
   obtain⟨rfl,rfl,rfl⟩:=m2
   have hlt:c<cp.length:=(List.getElem?_eq_some_iff.1 hcp).1
   refine skL_put (t0:=.dead) n2 (by simp[hlt]) fun t ua ub z1 z2 z3=>?_
   rw[hcp] at z1
   rw[v2] at z3
   have hlen2:(cp.set c T.dead).length=cp.length:=List.length_set
   rw[hlen2,v2] at z2
   simp only[Option.some.injEq] at z1 z2 z3
   subst z1;subst z2;subst z3
   refine⟨fun _=>rfl,?_⟩
   simp only[skL] at hs
   obtain⟨_,_,_,_,_,_,y1,y2,y3,_,y5,_⟩:=hs
   simp only[List.cons.injEq] at y1 y2 y3
   obtain⟨rfl,_⟩:=y1
   obtain⟨rfl,_⟩:=y3
   exact y5
  obtain⟨fX,x1,x2⟩:=rb0 h I .dead u0 [] ⟨fun x hx=>⟨hx,rfl⟩,fun x _=>rfl⟩ (by simp only[okV])
  rw[set_self v0] at x1
  have sk3:skL sz h h (cs.set c0 .dead) cs vs vs:=by
   have:=skL_set (h':=h) (t':=.dead) (u':=u0) hL hc v0 fun _ _ _ _=>⟨fun b _=>rfl,fun h=>by simp[isOwn] at h,by simp only[skV]⟩
   rw[set_self v0] at this
   exact this
  have sk4:skL sz h' h (cs.set c0 .dead) cs vs vs:=skL_trans (skL_refl (fun x hx=>by
   rcases (x2.mem x).1 hx with hx | hx
   ·simp at hx
   ·exact hf x (by simp[hx])) x1) sk3
  have hlt0:c0<cs.length:=(List.getElem?_eq_some_iff.1 hc).1
  have:=skL_put (c:=c0) (t0:=.dead) (t':=t1) sk4 (by simp[hlt0]) fun t ua ub z1 z2 z3=>?_
  ·rw[List.set_set] at this;exact this
  ·rw[hc] at z1
   rw[v0] at z2 z3
   simp only[Option.some.injEq] at z1 z2 z3
   subst z1;subst z2;subst z3
   simp only[skL] at sk2
   obtain⟨_,_,_,_,_,_,y1,y2,y3,_,y5,_⟩:=sk2
   simp only[List.cons.injEq] at y1 y2 y3
   obtain⟨rfl,_⟩:=y1
   obtain⟨rfl,_⟩:=y3
   exact⟨fun _=>rfl,y5⟩
 ·simp at hn
theorem HRel.back2 {sz z rt gh w FS X f d} {r1:Root} {x0:Cx} {S:Nat→Nat→Prop} (r:HRel sz z rt gh w FS (f++X)) (hr:okRoot sz w.heap (Inow z w (FS++(f++X))) (gh d) r1 f)
  (kp:Keeps x0 ⟨sz,w.heap,Inow z w (FS++(f++X)),rt,gh⟩ S)
  (hb:∃ ro,lk x0.rt d=some ro∧ro.ver=r1.ver∧ro.hver=r1.hver∧(gh d).blk=(x0.gh d).blk∧skL x0.sz w.heap x0.h r1.cells ro.cells (gh d).vals (x0.gh d).vals):
  ∃ FS',HRel sz z (up rt d r1) gh w FS' X∧Keeps x0 ⟨sz,w.heap,Inow z w (FS'++X),up rt d r1,gh⟩ S:=by
 obtain⟨fo,rr,q1,_,_,_,q4⟩:=okRts_up (d:=d) r.srt r.roots
 obtain⟨FS',p1,p2⟩:=q4 w.heap _ (gh d) r1 f ⟨fun b hb=>⟨hb,rfl⟩,fun b _=>rfl⟩ hr
 rw[gset_self] at p1
 have hm:∀ b,b∈FS'++X→b∈FS++(f++X):=fun b hb=>by
  have h0:=List.count_pos_iff.2 hb
  have h1:=q1 b
  have h2:=p2 b
  rw[←List.count_pos_iff]
  simp only[List.count_append] at *
  omega
 have hI:∀ b,Inow z w (FS++(f++X)) b→Inow z w (FS'++X) b:=fun b hb=>r.imm_grow (Nat.le_refl _) (fun b hb=>.inl (hm b hb)) hb
 obtain⟨ro,b1,b2,b3,b4,b5⟩:=hb
 refine⟨FS',⟨up_srt r.srt,okRts_agree ⟨fun b hb=>⟨hI b hb,rfl⟩,fun b _=>rfl⟩ p1,fun x=>?_,fun b hb=>r.lt b (hm b hb),fun b hb=>r.zone b (hm b hb),r.fr⟩,kp.sz,fun b hb=>⟨hI b (kp.old b hb).1,(kp.old b hb).2⟩,?_,?_⟩
 ·have h1:=q1 x
  have h2:=p2 x
  have h3:=r.uniq x
  simp only[List.count_append] at *
  omega
 ·intro d' s r' hs h1 h2
  by_cases he:d'=d
  ·subst he
   simp only[lk_up_self,Option.some.injEq] at h1
   subst h1;subst h2
   exact⟨ro,b1,b3,b4,b5⟩
  ·simp only[lk_up_ne _ _ _ _ he] at h1
   exact kp.hdr d' s r' hs h1 h2
 ·intro d' s r' hs h1 h2
  by_cases he:d'=d
  ·subst he
   simp only[lk_up_self,Option.some.injEq] at h1
   subst h1;subst h2
   exact⟨ro,b1,b2,b4⟩
  ·simp only[lk_up_ne _ _ _ _ he] at h1
   exact kp.top d' s r' hs h1 h2
section lend
variable {P:Program} {sz:TypeId→Nat} {z:Zn} {rt:List (Nat×Root)} {gh:Nat→G} {w:World} {FS:List Nat}
theorem lend_root {d:Nat} {ro:Root} {row row' cells':List T} {us uargs:List Value} {f:FuncId} {x:Value} {new:List T→Option (List T)} {S:Nat→Nat→Prop} (r:HRel sz z rt gh w FS []) (hl:lk rt d=some ro)
  (HT:∀ f0 I,okL sz w.heap I ro.cells (gh d).vals f0→Uniq f0→LendT sz w.heap I ro.cells (gh d).vals f0 row us new)
  (hcall:∀ z':Zn,z'.w0=w→Uniq z'.F0→(∀ b,b∈z'.F0→b<w.heap.size)→okL sz w.heap z'.I0 row us z'.F0→Calls P f uargs.toArray w fun
   | .returned u',w'=>u'=x∧BackL sz z' us row row' w'
   | _,_=>False)
  (hnew:new row'=some cells'):
  Calls P f uargs.toArray w fun
   | .returned u',w'=>u'=x∧∃ FS',HRel sz z (up rt d { ro with cells:=cells' }) gh w' FS' []∧Keeps ⟨sz,w.heap,Inow z w (FS++[]),rt,gh⟩ ⟨sz,w'.heap,Inow z w' (FS'++[]),up rt d { ro with cells:=cells' },gh⟩ S
   | _,_=>False:=by
 obtain⟨fd,rr,k1,k2,k3,k4⟩:=r.del hl
 have hufd:Uniq fd:=fun y=>by have:=k2.uniq y;simp only[List.count_append,List.count_nil] at this;omega
 have hsplit:∃ f0 pre,fd=pre++f0∧okL sz w.heap (Inow z w (rr++(fd++[]))) ro.cells (gh d).vals f0∧
   ∀ w':World,∀ I' f1 cs,(∀ b,b∈pre→w'.heap[b]?=w.heap[b]?)→cs.length=ro.cells.length→okL sz w'.heap I' cs (gh d).vals f1→okRoot sz w'.heap I' (gh d) { ro with cells:=cs } (pre++f1):=by
  unfold okRoot at k1 ⊢
  split at k1
  ·exact⟨fd,[],rfl,k1.2,fun w' I' f1 cs _ _ h=>⟨k1.1,h⟩⟩
  ·rename_i b hb
   obtain⟨hreal,fs',arr,rfl,e2,e3,e4,hL⟩:=k1
   exact⟨fs',[b.b],rfl,hL,fun w' I' f1 cs hp _ h=>⟨hreal,f1,arr,rfl,by rw[hp b.b (by simp)];exact e2,e3,e4,h⟩⟩
 obtain⟨f0,pre,rfl,hL,hroot⟩:=hsplit
 have huf0:Uniq f0:=fun y=>by have:=hufd y;simp only[List.count_append] at this;omega
 obtain⟨fm,fr,q1,q2,q3⟩:=HT f0 _ hL huf0
 have hfm:∀ b,b∈fm→b∈f0:=fun b hb=>(q1.mem b).2 (.inl hb)
 have hfr:∀ b,b∈fr→b∈f0:=fun b hb=>(q1.mem b).2 (.inr hb)
 have hz':∀ b,Inow z w (rr++((pre++f0)++[])) b→b<w.heap.size∧b∉fm:=fun b hb=>⟨(k2.imm hb).1,fun hm=>(k2.imm hb).2 (by simp[hfm b hm])⟩
 refine Calls.mono' (hcall ⟨w,fm,_,hz',k2.gok⟩ rfl (q1.uniq_l huf0) (fun b hb=>k2.lt b (by simp[hfm b hb])) q2) fun u' w' back=>?_
 obtain⟨rfl,bfr,⟨fm',o1,o2,o3⟩,osk⟩:=back
 refine⟨rfl,?_⟩
 have hz2:∀ b,Inow z w (rr++((pre++f0)++[])) b→b<w.heap.size∧b∉pre++f0:=fun b hb=>⟨(k2.imm hb).1,fun hm=>(k2.imm hb).2 (by simp only[List.mem_append] at hm ⊢;grind)⟩
 have bfr2:Fr ⟨w,pre++f0,_,hz2,k2.gok⟩ w':=⟨bfr.os,bfr.output,bfr.tape,bfr.size,fun b hb hn=>bfr.block b hb fun hm=>hn (by simp[hfm b hm])⟩
 have hfmlt:∀ b,b∈pre++f0→b<w.heap.size:=fun b hb=>k2.lt b (by simp only[List.mem_append] at hb ⊢;grind)
 have hu3:Uniq (pre++(fr++fm')):=fun y=>by
  have h1:=hufd y
  have h2:=q1 y
  have h3:=o2 y
  by_cases hy:y∈fm'
  ·rcases (o3 y hy).2 with h4 | h4
   ·have h5:=List.count_pos_iff.2 h4
    simp only[List.count_append] at *
    change 0<fm.count y at h5
    omega
   ·have h5:(pre++f0).count y=0:=List.count_eq_zero.2 fun hm=>by have:=hfmlt y hm;change w.heap.size≤y at h4;omega
    simp only[List.count_append] at *
    omega
  ·have h5:fm'.count y=0:=List.count_eq_zero.2 hy
   simp only[List.count_append] at *
   omega
 obtain⟨r3,kp3,hI3⟩:=k2.after (z':=⟨w,pre++f0,_,hz2,k2.gok⟩) (w':=w') (X':=pre++(fr++fm')) rfl (fun b hb=>by simpa using hb) bfr2 hu3 (fun b hb=>by
  simp only[List.mem_append] at hb
  rcases hb with hb | hb | hb
  ·have:=hfmlt b (by simp[hb]);have h5:w.heap.size≤w'.heap.size:=bfr.size;exact⟨by omega,.inl (by simp[hb])⟩
  ·have:=hfmlt b (by simp[hfr b hb]);have h5:w.heap.size≤w'.heap.size:=bfr.size;exact⟨by omega,.inl (by simp[hfr b hb])⟩
  ·obtain⟨h4,h5⟩:=o3 b hb
   exact⟨h4,h5.imp (fun h=>by simp[hfm b h]) id⟩)
 have hfmfr:∀ b,b∈fr→b∉fm:=fun b h1 h2=>q1.apart huf0 h2 h1
 have hok:okL sz w'.heap (Inow z w' (rr++(pre++(fr++fm')))) row' us fm':=okL_agree ⟨fun b hb=>⟨by
   rcases hb with hb | ⟨h1,h2,h3⟩
   ·exact hI3 b hb
   ·refine .inr ⟨?_,h2,fun hm=>?_⟩
    ·rcases h1 with h1 | h1
     ·exact k2.zone b (by simp[hfm b h1])
     ·have:=r.fr.size;change w.heap.size≤b at h1;exact .inr (by omega)
    ·simp only[List.mem_append] at hm
     rcases h1 with h1 | h1
     ·have h4:=k2.uniq b
      have h5:=hufd b
      have h6:=q1 b
      have h7:=List.count_pos_iff.2 h1
      change 0<fm.count b at h7
      simp only[List.count_append,List.count_nil] at h4 h5 h6
      rcases hm with hm | hm | hm | hm
      ·have:=List.count_pos_iff.2 hm;omega
      ·have:=List.count_pos_iff.2 hm;omega
      ·have:=List.count_pos_iff.2 hm;omega
      ·exact h3 hm
     ·change w.heap.size≤b at h1
      rcases hm with hm | hm | hm | hm
      ·have:=k2.lt b (by simp[hm]);omega
      ·have:=hfmlt b (by simp[hm]);omega
      ·have:=hfmlt b (by simp[hfr b hm]);omega
      ·exact h3 hm,rfl⟩,fun b _=>rfl⟩ o1
 obtain⟨f1,p1,p2,p3⟩:=q3 w'.heap (Inow z w' (rr++(pre++(fr++fm')))) row' fm' cells' (fun b hb=>⟨hI3 b hb,(kp3.old b hb).2⟩)
  (fun b hb=>bfr.block b (hfmlt b (by simp[hfr b hb])) (hfmfr b hb)) hnew hok osk
 have hcl:cells'.length=ro.cells.length:=by rw[←okL_length p1,←okL_length hL]
 obtain⟨r4,hI4⟩:=r3.perm (X':=(pre++f1)++[]) fun y=>by have:=p2 y;simp only[List.count_append,List.count_nil];omega
 have hro:=hroot w' (Inow z w' (rr++((pre++f1)++[]))) f1 cells' (fun b hb=>bfr.block b (hfmlt b (by simp[hb])) fun hm=>by
   have h5:=hufd b
   have h6:=List.count_pos_iff.2 hb
   have h7:=List.count_pos_iff.2 (hfm b hm)
   simp only[List.count_append] at h5
   omega) hcl (okL_agree ⟨fun b hb=>⟨(hI4 b).1 hb,rfl⟩,fun b _=>rfl⟩ p1)
 have kp:Keeps ⟨sz,w.heap,Inow z w (FS++[]),rt,gh⟩ ⟨sz,w'.heap,Inow z w' (rr++((pre++f1)++[])),TM.del rt d,gh⟩ S:=
  ((k4.trans kp3 fun _ _ h=>h).trans (r3.keeps_refl (fun _ _=>True) fun b hb=>(hI4 b).1 hb) fun _ _ h=>h) |> fun k=>⟨k.sz,k.old,fun d s r' _=>k.hdr d s r' trivial,fun d s r' _=>k.top d s r' trivial⟩
 obtain⟨FS',m1,m2⟩:=r4.back2 (d:=d) (r1:={ ro with cells:=cells' }) hro kp ⟨ro,hl,rfl,rfl,rfl,p3⟩
 rw[up_del r.srt] at m1 m2
 exact⟨FS',m1,m2⟩
end lend
def LendP (sz:TypeId→Nat) (h:Array Obj) (I:Nat→Prop) (g:G) (ro:Root) (fd:List Nat) (B:Blk) (cells:List T) (vals:List Value) (new:List T→Option (List T)):Prop:=
 ∃ fm fr,Both fd (B.b::fm) fr∧(∃ arr,h[B.b]?=some (.cells arr B.el B.fz)∧fzFree B.fz arr.size∧arr.toList=B.pre++vals++B.post)∧okL sz h I cells vals fm∧
  ∀ h' I' cells' fm' vals' arr' cs2,(∀ x,I x→I' x∧h'[x]?=h[x]?)→(∀ x,x∈fr→h'[x]?=h[x]?)→h'[B.b]?=some (.cells arr' B.el B.fz)→arr'.toList=B.pre++vals'++B.post→vals'.length=vals.length→
   okL sz h' I' cells' vals' fm'→skL sz h' h cells' cells vals' vals→new cells'=some cs2→
   ∃ g1 f1,okRoot sz h' I' g1 { ro with cells:=cs2 } f1∧Both f1 (B.b::fm') fr∧g1.blk=g.blk∧skL sz h' h cs2 ro.cells g1.vals g.vals
theorem size_mid {arr arr':Array Value} {pre vals vals' post:List Value} (h1:arr.toList=pre++vals++post) (h2:arr'.toList=pre++vals'++post) (h3:vals'.length=vals.length):arr'.size=arr.size:=by
 have e1:=congrArg List.length h1
 have e2:=congrArg List.length h2
 simp only[Array.length_toList,List.length_append] at e1 e2
 omega
theorem lendP_top {sz h I} {g:G} {ro:Root} {fd:List Nat} {B0:Blk} {off:Nat} (hb:g.blk=some B0) (hk:okRoot sz h I g ro fd) (hoff:off≤ro.cells.length):
  ∃ u1 u2,g.vals=u1++u2∧u1.length=off∧LendP sz h I g ro fd ⟨B0.b,B0.pre++u1,B0.post,B0.el,B0.fz⟩ (ro.cells.drop off) u2 (fun cs'=>some (ro.cells.take off++cs')):=by
 unfold okRoot at hk
 rw[hb] at hk
 obtain⟨hreal,fs',arr,rfl,e2,e3,e4,hL⟩:=hk
 have e1:(ro.cells.take off)++ro.cells.drop off=ro.cells:=List.take_append_drop _ _
 have hL':=hL
 rw[←e1] at hL'
 obtain⟨u1,u2,f1,f2,hus,rfl,l1,q1,q2⟩:=okL_split hL'
 have l1':u1.length=off:=by rw[l1,List.length_take];omega
 refine⟨u1,u2,hus,l1',f2,f1,fun x=>by simp only[List.count_cons,List.count_append];omega,⟨arr,e2,e3,by rw[e4,hus];simp only[List.append_assoc]⟩,q2,fun h' I' cells' fm' vals' arr' cs2 hI hf hb' ha hl ho hs hn=>?_⟩
 simp only[Option.some.injEq] at hn
 subst hn
 have q1':=okL_agree (h':=h') (I':=I') ⟨hI,hf⟩ q1
 have hsz:arr'.size=arr.size:=size_mid (pre:=B0.pre++u1) (by rw[e4,hus];simp only[List.append_assoc]) ha hl
 refine⟨⟨some B0,u1++vals'⟩,B0.b::(f1++fm'),⟨hreal,f1++fm',arr',rfl,hb',by rw[hsz];exact e3,by rw[ha];simp only[List.append_assoc],okL_app q1' ho⟩,fun x=>by simp only[List.count_cons,List.count_append];omega,hb.symm,?_⟩
 have:=skL_app (skL_refl hf q1) rfl l1.symm l1.symm hs
 rw[e1,←hus] at this
 exact this
theorem graft_id:∀ {p:List (Nat×Nat)} {cs k:List T},descend cs p=some k→graft (fun x=>some x) cs p=some cs
 | [],cs,k,h=>rfl
 | (c,i)::rest,cs,k,h=>by
  simp only[descend] at h
  split at h
  ·rename_i e es hc
   split at h
   ·rename_i cs' hi
    simp only[graft,hc,hi,graft_id h]
    have h1:es.set i cs'=es:=by
     apply List.ext_getElem?
     intro j
     rw[List.getElem?_set]
     split
     ·rename_i hj;subst hj
      split
      ·exact hi.symm
      ·rename_i hlt;rw[List.getElem?_eq_none (by omega)]
     ·rfl
    rw[h1]
    congr 1
    apply List.ext_getElem?
    intro j
    rw[List.getElem?_set]
    split
    ·rename_i hj;subst hj
     split
     ·exact hc.symm
     ·rename_i hlt;rw[List.getElem?_eq_none (by omega)]
    ·rfl
   ·simp at h
  ·simp at h
theorem anyOwn_dead:∀ n,anyOwn (List.replicate n T.dead)=false
 | 0=>rfl
 | n+1=>by simp only[List.replicate_succ,anyOwn,isOwn,anyOwn_dead n,Bool.or_false]
theorem okL_dead {sz h I}:∀ {us:List Value},okL sz h I (List.replicate us.length T.dead) us []
 | []=>by simp[okL]
 | u::us=>by
  simp only[List.length_cons,List.replicate_succ,okL]
  exact⟨u,us,[],[],rfl,rfl,by simp only[okV],okL_dead⟩
def newP (cs:List T) (c0 i:Nat) (rest:List (Nat×Nat)) (t0:T) (off:Nat) (cs':List T):Option (List T):=
 match graft (fun x=>some (x.take off++cs')) [t0] ((0,i)::rest) with
 | some [t1]=>some (cs.set c0 t1)
 | _=>none
theorem lendP_deep {sz h I} {g:G} {ro:Root} {fd:List Nat} {c0 i off:Nat} {rest:List (Nat×Nat)} {t0:T} {cp:List T} (hk:okRoot sz h I g ro fd) (hufd:Uniq fd) (hc:ro.cells[c0]?=some t0) (hd:descend [t0] ((0,i)::rest)=some cp) (hoff:off≤cp.length):
  ∃ b o arr el fz u1 u2,h[b]?=some (.cells arr el fz)∧(arr.toList.drop o).take cp.length=u1++u2∧u1.length=off∧o+cp.length≤arr.size∧(∀ ad,loc sz h ro.cells g.vals ad ((c0,i)::rest)=some (cp,(arr.toList.drop o).take cp.length,some (b,o)))∧
   LendP sz h I g ro fd ⟨b,arr.toList.take o++u1,arr.toList.drop (o+cp.length),el,fz⟩ (cp.drop off) u2 (newP ro.cells c0 i rest t0 off):=by
 have hsplit:∃ f0 pre,fd=pre++f0∧okL sz h I ro.cells g.vals f0∧
   ∀ h' I' f1 cs,(∀ b,b∈pre→h'[b]?=h[b]?)→okL sz h' I' cs g.vals f1→okRoot sz h' I' g { ro with cells:=cs } (pre++f1):=by
  unfold okRoot at hk ⊢
  split at hk
  ·exact⟨fd,[],rfl,hk.2,fun h' I' f1 cs _ h=>⟨hk.1,h⟩⟩
  ·rename_i b hb
   obtain⟨hreal,fs',arr,rfl,e2,e3,e4,hL⟩:=hk
   exact⟨fs',[b.b],rfl,hL,fun h' I' f1 cs hp h=>⟨hreal,f1,arr,rfl,by rw[hp b.b (by simp)];exact e2,e3,e4,h⟩⟩
 obtain⟨f0,pre,rfl,hL,hroot⟩:=hsplit
 have huf:Uniq f0:=fun y=>by have:=hufd y;simp only[List.count_append] at this;omega
 obtain⟨u0,fo,fr0,v0,q0,k0,rb0⟩:=okL_focus hL hc
 have hufo:=q0.uniq_l huf
 obtain⟨b,o,arr,el,fz,fp,R,l1,l2,l3,l4,l5,q1,k1,rb1⟩:=path_ok (ad:=none) (by simp) (okL_one.2 k0) hufo hd
 have hw:((arr.toList.drop o).take cp.length).length=cp.length:=okL_length k1
 have e1:(cp.take off)++cp.drop off=cp:=List.take_append_drop _ _
 have k1':=k1
 rw[←e1] at k1'
 obtain⟨u1,u2,f1,f2,hus,rfl,n1,m1,m2⟩:=okL_split k1'
 rw[e1] at hus
 have hn1:u1.length=off:=by rw[n1,List.length_take];omega
 have hn2:u2.length=cp.length - off:=by have:=okL_length m2;rwa[List.length_drop] at this
 have hwin:arr.toList=arr.toList.take o++(u1++u2)++arr.toList.drop (o+cp.length):=by
  rw[←hus,List.append_assoc,←List.drop_drop,List.take_append_drop,List.take_append_drop]
 have hpo:(arr.toList.take o).length=o:=by rw[List.length_take,Array.length_toList];omega
 have hRb:∀ x,R.count x=(R.erase b).count x+(if b=x then 1 else 0):=fun x=>by
  rw[List.count_erase]
  split
  ·rename_i hx
   have hx:b=x:=by simpa using hx
   subst hx
   have:=List.count_pos_iff.2 l5
   simp only[if_true]
   omega
  ·rename_i hx
   have hx:¬ b=x:=by simpa using hx
   rw[if_neg hx]
   omega
 refine⟨b,o,arr,el,fz,u1,u2,l2,hus,hn1,l4,fun ad=>by rw[loc_head (ad':=none) hc v0];exact l1,f2,pre++(f1++(R.erase b++fr0)),fun x=>?_,⟨arr,l2,l3,by rw[List.append_assoc (arr.toList.take o)];exact hwin⟩,m2,fun h' I' cells' fm' vals' arr' cs2 hI hf hb' ha hl ho hs hn=>?_⟩
 ·have y1:=q0 x
  have y2:=q1 x
  have y3:=hRb x
  simp only[List.count_append,List.count_cons,beq_iff_eq] at *
  omega
 simp only at hb' ha
 have hfp:∀ x,x∈pre→h'[x]?=h[x]?:=fun x hx=>hf x (by simp[hx])
 have hf1:∀ x,x∈f1→h'[x]?=h[x]?:=fun x hx=>hf x (by simp[hx])
 have hfR:∀ x,x∈R→x≠b→h'[x]?=h[x]?:=fun x hx hxb=>hf x (by
  have h1:=List.count_pos_iff.2 hx
  have h2:=hRb x
  rw[if_neg (Ne.symm hxb)] at h2
  have h3:x∈R.erase b:=List.count_pos_iff.1 (by omega)
  simp[h3])
 have hfr0:∀ x,x∈fr0→h'[x]?=h[x]?:=fun x hx=>hf x (by simp[hx])
 have hsz:arr'.size=arr.size:=size_mid (pre:=arr.toList.take o++u1) (vals:=u2) (by rw[List.append_assoc (arr.toList.take o)];exact hwin) ha hl
 have ha':arr'.toList=arr.toList.take o++(u1++vals')++arr.toList.drop (o+cp.length):=by rw[ha,List.append_assoc (arr.toList.take o)]
 have hcl':cells'.length=cp.length - off:=by rw[←okL_length ho,hl,hn2]
 have hcl2:(cp.take off++cells').length=cp.length:=by rw[List.length_append,List.length_take,hcl'];omega
 have m1':=okL_agree (h':=h') (I':=I') ⟨hI,hf1⟩ m1
 obtain⟨cs2l,fs2,g1,g2,g3⟩:=rb1 h' I' (cp.take off++cells') (u1++vals') (f1++fm') arr' (fun x=>some (x.take off++cells')) rfl hI hfR hb' hsz ha' hcl2 (okL_app m1' ho)
 have hcs2:∃ t1,cs2l=[t1]:=by
  have:=okL_length g2
  match cs2l,this with
  | [t1],_=>exact⟨t1,rfl⟩
 obtain⟨t1,rfl⟩:=hcs2
 unfold newP at hn
 rw[g1] at hn
 simp only[Option.some.injEq] at hn
 subst hn
 obtain⟨f3,r1,r2⟩:=rb0 h' I' t1 u0 fs2 ⟨hI,hfr0⟩ (okL_one.1 g2)
 rw[set_self v0] at r1
 refine⟨g,pre++f3,hroot h' I' f3 _ hfp r1,fun x=>?_,rfl,?_⟩
 ·have y1:=q0 x
  have y2:=g3 x
  have y3:=hRb x
  have y4:=r2 x
  simp only[List.count_append,List.count_cons,beq_iff_eq] at *
  omega
 have hdl:(List.replicate (cp.length - off) T.dead).length=u2.length:=by rw[List.length_replicate,hn2]
 have hD:(cp.take off++List.replicate (cp.length - off) T.dead).length=cp.length:=by rw[List.length_append,List.length_take,List.length_replicate];omega
 have okd:okL sz h I (cp.take off++List.replicate (cp.length - off) T.dead) ((arr.toList.drop o).take cp.length) f1:=by
  rw[hus,←hn2]
  have:=okL_app m1 (okL_dead (sz:=sz) (h:=h) (I:=I) (us:=u2))
  rwa[List.append_nil] at this
 have okd':okL sz h' I' (cp.take off++List.replicate (cp.length - off) T.dead) (u1++vals') f1:=by
  rw[←hn2,←hl]
  have:=okL_app m1' (okL_dead (sz:=sz) (h:=h') (I:=I') (us:=vals'))
  rwa[List.append_nil] at this
 let F:List T→Option (List T):=fun x=>if x.length=cp.length then some (x.take off++List.replicate (cp.length - off) T.dead) else none
 have hF:F cp=some (cp.take off++List.replicate (cp.length - off) T.dead):=if_pos rfl
 obtain⟨csd,fsd,d1,d2,d3⟩:=rb1 h I _ _ f1 arr F hF (fun x hx=>⟨hx,rfl⟩) (fun x _ _=>rfl) l2 rfl (by rw[hus];exact hwin) hD okd
 have hcsd:∃ td,csd=[td]:=by
  have:=okL_length d2
  match csd,this with
  | [td],_=>exact⟨td,rfl⟩
 obtain⟨td,rfl⟩:=hcsd
 have lt1:(cp.take off).length=off:=by rw[List.length_take];omega
 have sk0:skL sz h h [td] [t0] [u0] [u0]:=path_sk (g:=F) (c1:=cp.take off++List.replicate (cp.length - off) T.dead) (ad:=none) (by simp) (okL_one.2 k0) hufo hd l1 l2 l4 (fun x _ _=>rfl) l2 (by rw[hus];exact hwin) hw hF hD
  (by
   have:=skL_app (c2:=List.replicate (cp.length - off) T.dead) (d2:=cp.drop off) (u2:=u2) (v2:=u2) (skL_refl (h':=h) (fun _ _=>rfl) m1) rfl n1.symm n1.symm (skL_none (anyOwn_dead _) (by rw[List.length_replicate,List.length_drop]) hdl hdl)
   rw[e1,←hus] at this
   exact this) d1
 have hudd:Uniq fsd:=fun x=>by
  have h1:=huf x
  have h2:=q0 x;have h3:=q1 x;have h6:=d3 x
  simp only[List.count_append] at h3
  omega
 obtain⟨kd,hkd,hdd⟩:=descend_graft d1 hd
 rw[hF] at hkd
 simp only[Option.some.injEq] at hkd
 subst hkd
 obtain⟨csd',fsd',d1',d2',d3'⟩:=rb1 h' I' _ _ f1 arr' F hF hI hfR hb' hsz ha' hD okd'
 rw[d1] at d1'
 simp only[Option.some.injEq] at d1'
 subst d1'
 have hudd':Uniq fsd':=fun x=>by
  have h1:=huf x
  have h2:=q0 x;have h3:=q1 x;have h6:=d3' x
  simp only[List.count_append] at h3
  omega
 have locd:loc sz h [td] [u0] none ((0,i)::rest)=some (cp.take off++List.replicate (cp.length - off) T.dead,(arr.toList.drop o).take cp.length,some (b,o)):=by
  obtain⟨b',o',arr2,el',fz',fp',R',p1,p2,_,_,_,_,_,_⟩:=path_ok (ad:=none) (by simp) d2 hudd hdd
  obtain⟨kk,vv,n1,n2⟩:=sk_loc sk0 p1
  rw[l1] at n1
  simp only[Option.some.injEq,Prod.mk.injEq] at n1
  obtain⟨rfl,rfl,rfl,rfl⟩:=n1
  rw[l2] at p2
  simp only[Option.some.injEq,Obj.cells.injEq] at p2
  obtain⟨rfl,_⟩:=p2
  rw[p1,hD]
 have hfsd:∀ x,x∈fsd→x≠b→h'[x]?=h[x]?:=fun x hx hxb=>by
  rcases (d3.mem x).1 hx with hx | hx
  ·exact hf1 x hx
  ·exact hfR x hx hxb
 have lv':(u1++vals').length=cp.length:=by rw[List.length_append,hn1,hl,hn2];omega
 have sk1':skL sz h' h [td] [td] [u0] [u0]:=path_sk (g:=fun x=>some x) (c1:=cp.take off++List.replicate (cp.length - off) T.dead) (vs1:=u1++vals') (arr':=arr') (ad:=none) (by simp) d2 hudd hdd locd l2 (by rw[hD];exact l4) hfsd hb'
  (by rw[hD];exact ha') (by rw[hD];exact lv') rfl rfl
  (by
   rw[hD,hus]
   exact skL_app (skL_refl hf1 m1) rfl n1.symm n1.symm (skL_none (anyOwn_dead _) rfl (by rw[List.length_replicate,hl,hn2]) hdl)) (graft_id hdd)
 have sk1:skL sz h' h [td] [t0] [u0] [u0]:=skL_trans sk1' sk0
 have sk2:skL sz h' h [t1] [t0] [u0] [u0]:=by
  have hgg:graft (fun x=>some (x.take off++cells')) [td] ((0,i)::rest)=some [t1]:=by
   rw[graft_graft (g2:=fun x=>some (x.take off++cells')) (fun k k1 hk=>by
    simp only[F] at hk
    split at hk
    ·rename_i hlen
     simp only[Option.some.injEq] at hk
     subst hk
     have:(k.take off).length=off:=by rw[List.length_take];omega
     rw[List.take_append_of_le_length (by omega),List.take_of_length_le (by omega)]
    ·simp at hk) d1]
   exact g1
  refine sk_graft (ad:=none) sk1 hgg fun k' v' a' k v a k2' w1 w2 w3=>?_
  rw[l1] at w2
  simp only[Option.some.injEq,Prod.mk.injEq] at w2
  obtain⟨rfl,rfl,_⟩:=w2
  simp only[Option.some.injEq] at w3
  subst w3
  obtain⟨b',o',arr2,el',fz',fp',R',p1,p2,_,_,_,_,_,_⟩:=path_ok (ad:=none) (by simp) d2' hudd' hdd
  obtain⟨kk,vv,y1,y2⟩:=sk_loc sk1 w1
  rw[l1] at y1
  simp only[Option.some.injEq,Prod.mk.injEq] at y1
  obtain⟨rfl,rfl,rfl⟩:=y1
  rw[p1] at w1
  simp only[Option.some.injEq,Prod.mk.injEq] at w1
  obtain⟨rfl,rfl,e4,rfl⟩:=w1
  subst e4
  rw[hb'] at p2
  simp only[Option.some.injEq,Obj.cells.injEq] at p2
  obtain⟨rfl,_⟩:=p2
  have hv':(arr'.toList.drop o').take (cp.take off++List.replicate (cp.length - off) T.dead).length=u1++vals':=by
   rw[hD,ha',List.append_assoc,List.drop_append_of_le_length (by omega),List.drop_of_length_le (by omega),List.nil_append,List.take_append_of_le_length (by omega),List.take_of_length_le (by omega)]
  rw[hv',hus,List.take_append_of_le_length (by omega),List.take_of_length_le (l:=cp.take off) (by omega)]
  have:=skL_app (skL_refl hf1 m1) rfl n1.symm n1.symm hs
  rw[e1] at this
  exact this
 obtain⟨fX,x1,x2⟩:=rb0 h I .dead u0 [] ⟨fun x hx=>⟨hx,rfl⟩,fun x _=>rfl⟩ (by simp only[okV])
 rw[set_self v0] at x1
 have sk3:skL sz h h (ro.cells.set c0 .dead) ro.cells g.vals g.vals:=by
  have:=skL_set (h':=h) (t':=.dead) (u':=u0) hL hc v0 fun _ _ _ _=>⟨fun b _=>rfl,fun h=>by simp[isOwn] at h,by simp only[skV]⟩
  rw[set_self v0] at this
  exact this
 have sk4:skL sz h' h (ro.cells.set c0 .dead) ro.cells g.vals g.vals:=skL_trans (skL_refl (fun x hx=>by
  rcases (x2.mem x).1 hx with hx | hx
  ·simp at hx
  ·exact hfr0 x hx) x1) sk3
 have hlt0:c0<ro.cells.length:=(List.getElem?_eq_some_iff.1 hc).1
 have:=skL_put (c:=c0) (t0:=.dead) (t':=t1) sk4 (by simp[hlt0]) fun t ua ub z1 z2 z3=>?_
 ·rw[List.set_set] at this;exact this
 ·rw[hc] at z1
  rw[v0] at z2 z3
  simp only[Option.some.injEq] at z1 z2 z3
  subst z1;subst z2;subst z3
  simp only[skL] at sk2
  obtain⟨_,_,_,_,_,_,y1,y2,y3,_,y5,_⟩:=sk2
  simp only[List.cons.injEq] at y1 y2 y3
  obtain⟨rfl,_⟩:=y1
  obtain⟨rfl,_⟩:=y3
  exact⟨fun _=>rfl,y5⟩
end Go.TM
