/- Of the tree machine: its evaluator and why it is sound. -/
import Derived.Test.YtldklhcklkaplaaGreatDoorTTm3
import Derived.Carry
import Derived.ChangeArms
import Derived.ChangeShapes
import Derived.OpenShut
import GoSem.ClaimJoined
import Derived.Test.YtldklhcklkaplaaGreatDoorProg
set_option linter.unusedSimpArgs false
set_option linter.unusedVariables false
namespace Go.TM
open Go
theorem touched_bind {α β:Type} {rt:List (Nat×Root)}:∀ {m:Rd α} {k:α→Rd β} {a:α},m.run rt=some a→(m.bind k).touched rt=m.touched rt++(k a).touched rt
 | .ret b,k,a,h=>by simp only[Rd.run,Option.some.injEq] at h;subst h;rfl
 | .fail,k,a,h=>by simp[Rd.run] at h
 | .cell hh d v c k0,k,a,h=>by
  obtain⟨r,t,h1,h2,h3,h4⟩:=run_cell h
  simp only[Rd.bind,Rd.touched,h1,h2,h3,if_true]
  rw[touched_bind h4];rfl
 | .root hh d v k0,k,a,h=>by
  simp only[Rd.run] at h
  split at h
  ·rename_i r hl
   split at h
   ·rename_i hv
    simp only[Rd.bind,Rd.touched,hl,hv,if_true]
    rw[touched_bind h];rfl
   ·simp at h
  ·simp at h
 | .stamp hh d v k0,k,a,h=>by
  obtain⟨r,h1,h2,h3⟩:=run_stamp h
  simp only[Rd.bind,Rd.touched,h1,h2,if_true]
  rw[touched_bind h3];rfl
abbrev Callee:=FuncId→List Arg→Option Res
def Le (c c':Callee):Prop:=∀ f a r,c f a=some r→c' f a=some r
theorem Le.refl (c:Callee):Le c c:=fun _ _ _ h=>h
theorem Le.trans {a b c:Callee} (h:Le a b) (h':Le b c):Le a c:=fun f x r hr=>h' f x r (h f x r hr)
def Alike {α:Type} (rt:List (Nat×Root)) (x y:Rd α) (e:α):Prop:=y.run rt=some e∧y.touched rt=x.touched rt
theorem Alike.bind {α β:Type} {rt:List (Nat×Root)} {m:Rd α} {k k':α→Rd β} {a:α} {e:β} (h:m.run rt=some a) (hk:Alike rt (k a) (k' a) e):Alike rt (m.bind k) (m.bind k') e:=
 ⟨by rw[run_bind_eq h];exact hk.1,by rw[touched_bind h,touched_bind h,hk.2]⟩
section mono
variable {E:Env} {me:FuncId}
theorem callEff0_split {c:Callee} {d tick:Nat} {f:FuncId} {tys:List TypeId} {ts:List T} {rt:List (Nat×Root)} {e:Eff} (h:(callEff0 E c me d tick f tys ts).run rt=some e):
  ∃ a r,c f a=some r∧∀ c':Callee,c' f a=some r→Alike rt (callEff0 E c me d tick f tys ts) (callEff0 E c' me d tick f tys ts) e:=by
 unfold callEff0 at h ⊢
 obtain⟨l,h1,h2⟩:=run_bind h
 split at h2
 ·rename_i hcond
  cases hc:c f l.args with
  | none=>rw[hc] at h2;simp[Rd.run] at h2
  | some r=>
   refine⟨l.args,r,hc,fun c' hc'=>Alike.bind h1 ?_⟩
   rw[hc] at h2
   rw[if_pos hcond,if_pos hcond,hc,hc']
   exact⟨h2,rfl⟩
 ·simp[Rd.run] at h2
theorem Alike.root {α:Type} {rt:List (Nat×Root)} {hh:Bool} {d v:Nat} {k k':Root→Rd α} {ro:Root} {e:α} (h1:lk rt d=some ro) (h2:ro.at_ hh=v) (hk:Alike rt (k ro) (k' ro) e):Alike rt (.root hh d v k) (.root hh d v k') e:=by
 refine⟨?_,?_⟩
 ·simp only[Rd.run,h1,h2,if_true];exact hk.1
 ·simp only[Rd.touched,h1,h2,if_true];rw[hk.2]
theorem lendEff_split {c:Callee} {f:FuncId} {ts:List T} {rt:List (Nat×Root)} {e:Eff} (h:(lendEff c f ts).run rt=some e):
  ∃ a r,c f a=some r∧∀ c':Callee,c' f a=some r→Alike rt (lendEff c f ts) (lendEff c' f ts) e:=by
 unfold lendEff at h ⊢
 split at h
 ·unfold lendOne at h ⊢
  obtain⟨q,h1,h2⟩:=run_bind h
  obtain⟨ys,h3,h4⟩:=run_bind h2
  split at h4
  ·rename_i r hr
   refine⟨_,r,hr,fun c' hc'=>Alike.bind h1 (Alike.bind h3 ?_)⟩
   simp only[hr,hc']
   exact⟨h4,rfl⟩
  ·simp[Rd.run] at h4
 ·unfold lendMany at h ⊢
  obtain⟨p,h1,h2⟩:=run_bind h
  obtain⟨ro,g1,g2,h3⟩:=run_root h2
  obtain⟨row,h4,h5⟩:=run_bind h3
  obtain⟨ys,h6,h7⟩:=run_bind h5
  split at h7
  ·rename_i r hr
   refine⟨_,r,hr,fun c' hc'=>Alike.bind h1 ?_⟩
   refine Alike.root g1 g2 ?_
   refine Alike.bind h4 (Alike.bind h6 ?_)
   simp only[hr,hc']
   exact⟨h7,rfl⟩
  ·simp[Rd.run] at h7
 ·simp[Rd.run] at h
theorem callFar_split {c:Callee} {d tick:Nat} {f:FuncId} {tys:List TypeId} {ts:List T} {rt:List (Nat×Root)} {e:Eff} (h:(callFar E c me d tick f tys ts).run rt=some e):
  ∃ a r,c f a=some r∧∀ c':Callee,c' f a=some r→Alike rt (callFar E c me d tick f tys ts) (callFar E c' me d tick f tys ts) e:=by
 unfold callFar at h ⊢
 obtain⟨l,h1,h2⟩:=run_bind h
 cases hw:l.way with
 | nil=>rw[hw] at h2;simp[Rd.run] at h2
 | cons y ys=>
  cases ys with
  | cons y2 ys=>rw[hw] at h2;simp[Rd.run] at h2
  | nil=>
   rw[hw] at h2
   simp only at h2
   by_cases hc0:l.used.contains y.d=true
   ·rw[if_pos hc0] at h2;simp[Rd.run] at h2
   ·rw[if_neg hc0] at h2
    cases hc:c f l.args with
    | none=>rw[hc] at h2;simp[Rd.run] at h2
    | some r=>
     refine⟨l.args,r,hc,fun c' hc'=>Alike.bind h1 ?_⟩
     rw[hc] at h2
     rw[hw]
     simp only[if_neg hc0,hc,hc']
     exact⟨h2,rfl⟩
theorem callEff1_split {c:Callee} {d tick:Nat} {f:FuncId} {tys:List TypeId} {ts:List T} {rt:List (Nat×Root)} {e:Eff} (h:(callEff1 E c me d tick f tys ts).run rt=some e):
  ∃ a r,c f a=some r∧∀ c':Callee,c' f a=some r→Alike rt (callEff1 E c me d tick f tys ts) (callEff1 E c' me d tick f tys ts) e:=by
 unfold callEff1 at h ⊢
 split at h
 ·rename_i hl;simp only[hl,if_true];exact lendEff_split h
 ·rename_i hl
  simp only[hl,if_false]
  split at h
  ·rename_i hf;simp only[hf,if_true];exact callFar_split h
  ·rename_i hf;simp only[hf,if_false];exact callEff0_split h
theorem callEff_split {c:Callee} {d tick:Nat} {f:FuncId} {tys:List TypeId} {ts:List T} {rt:List (Nat×Root)} {e:Eff} (h:(callEff E c me d tick f tys ts).run rt=some e):
  ∃ a r,c f a=some r∧∀ c':Callee,c' f a=some r→Alike rt (callEff E c me d tick f tys ts) (callEff E c' me d tick f tys ts) e:=by
 unfold callEff at h ⊢
 cases hv:viewOf E f ts with
 | none=>
  rw[hv] at h
  exact callEff1_split h
 | some v=>
  rw[hv] at h
  simp only at h ⊢
  cases hc:c f v.args with
  | none=>unfold viewEff at h;rw[hc] at h;simp[Rd.run] at h
  | some r=>
   refine⟨v.args,r,hc,fun c' hc'=>?_⟩
   have e1:viewEff c' (E.keep me d) tick f v ts=viewEff c (E.keep me d) tick f v ts:=by unfold viewEff;rw[hc,hc']
   rw[e1]
   exact⟨h,rfl⟩
theorem evOp_split {c:Callee} {val:Operand→Option T} {tick d:Nat} {ty0:TypeId} {op:Op} {rt:List (Nat×Root)} {e:Eff} (h:(evOp E c me val tick d ty0 op).run rt=some e):
  (∀ c':Callee,Alike rt (evOp E c me val tick d ty0 op) (evOp E c' me val tick d ty0 op) e)∨
  ∃ f a r,c f a=some r∧∀ c':Callee,c' f a=some r→Alike rt (evOp E c me val tick d ty0 op) (evOp E c' me val tick d ty0 op) e:=by
 cases op
 case call cl=>
  cases hcl:cl.callee with
  | value g=>
   right
   simp only[evOp,hcl] at h ⊢
   obtain⟨tg,h1,h2⟩:=run_bind h
   obtain⟨ts,h3,h4⟩:=run_bind h2
   split at h4
   ·rename_i f first caps
    split at h4
    ·rename_i hcond
     obtain⟨a,r,q1,q2⟩:=callEff_split h4
     refine⟨f,a,r,q1,fun c' hc'=>Alike.bind h1 (Alike.bind h3 ?_)⟩
     simp only[hcond,if_true]
     exact q2 c' hc'
    ·simp[Rd.run] at h4
   ·obtain⟨a,r,q1,q2⟩:=callEff_split h4
    exact⟨_,a,r,q1,fun c' hc'=>Alike.bind h1 (Alike.bind h3 (q2 c' hc'))⟩
   ·simp[Rd.run] at h4
  | invoke r m=>left;intro c';simp only[evOp,hcl] at h ⊢;exact⟨h,rfl⟩
  | builtin b=>left;intro c';cases b<;>simp only[evOp,hcl] at h ⊢<;>exact⟨h,rfl⟩
 case makeFunc fn first caps=>left;intro c';cases fn<;>simp only[evOp] at h ⊢<;>exact⟨h,rfl⟩
 all_goals (left;intro c';simp only[evOp] at h ⊢;exact⟨h,rfl⟩)
theorem evOp_mono {c c':Callee} (hl:Le c c') {val:Operand→Option T} {tick d:Nat} {ty0:TypeId} {op:Op} {rt:List (Nat×Root)} {e:Eff} (h:(evOp E c me val tick d ty0 op).run rt=some e):
  Alike rt (evOp E c me val tick d ty0 op) (evOp E c' me val tick d ty0 op) e:=by
 rcases evOp_split h with h1 | ⟨f,a,r,h1,h2⟩
 ·exact h1 c'
 ·exact h2 c' (hl f a r h1)
theorem evOne_mono {c c':Callee} (hl:Le c c') {ops:List Oper} {st st':St} {o:Oper} (h:evOne E c me ops st o=some st'):
  evOne E c' me ops st o=some st'∧footOf E c' me ops st o=footOf E c me ops st o:=by
 unfold evOne gif at h ⊢
 unfold footOf
 split at h
 ·rename_i b hw
  cases b with
  | true=>
   rw[if_pos rfl] at h
   split at h
   ·rename_i e he
    obtain⟨h1,h2⟩:=evOp_mono hl he
    simp only[if_true,h1,h2]
    exact⟨h,trivial⟩
   ·simp at h
  | false=>
   rw[if_neg (by simp)] at h
   exact⟨h,rfl⟩
 ·simp at h
theorem evOps_mono {c c':Callee} (hl:Le c c') {ops:List Oper}:∀ {l:List Oper} {st st':St},evOps E c me ops l st=some st'→evOps E c' me ops l st=some st'
 | [],_,_,h=>h
 | o::l,st,st',h=>by
  simp only[evOps] at h ⊢
  split at h
  ·rename_i s1 h1
   rw[(evOne_mono hl h1).1]
   exact evOps_mono hl h
  ·simp at h
theorem evOpsK_mono {c c':Callee} (hl:Le c c') {ops:List Oper}:∀ {l:List Oper} {ks:List (List Tmp)} {st st':St},evOpsK E c me ops ks l st=some st'→evOpsK E c' me ops ks l st=some st'
 | [],_,_,_,h=>h
 | o::l,ks,st,st',h=>by
  simp only[evOpsK] at h ⊢
  split at h
  ·rename_i s1 h1
   rw[(evOne_mono hl h1).1]
   simp only
   split at h
   ·exact evOpsK_mono hl h
   ·exact evOpsK_mono hl h
  ·simp at h
theorem evFeet_mono {c c':Callee} (hl:Le c c') {ops:List Oper} {ps:List (Nat×Nat)}:∀ {l:List Oper} {i:Nat} {st:St} {r},evFeet E c me ops ps i l st=some r→evFeet E c' me ops ps i l st=some r
 | [],_,_,_,h=>h
 | o::l,i,st,r,h=>by
  simp only[evFeet] at h ⊢
  split at h
  ·rename_i s1 h1
   obtain⟨q1,q2⟩:=evOne_mono hl h1
   rw[q1,q2]
   split at h
   ·rename_i F fs h2
    simp only
    rw[evFeet_mono hl h2]
    exact h
   ·simp at h
  ·simp at h
theorem evRegion_mono {c c':Callee} (hl:Le c c') {id:Nat} {ops:List Oper} {dr:Bool} {st st':St} (h:evRegion E c me id ops dr st=some st'):evRegion E c' me id ops dr st=some st':=by
 unfold evRegion at h ⊢
 by_cases hclr:E.clr me id=true
 ·rw[if_pos hclr] at h ⊢;exact h
 rw[if_neg hclr] at h ⊢
 split at h
 ·rename_i hd
  rw[if_pos hd]
  split at h
  ·rename_i hp
   rw[if_pos hp]
   split at h
   ·rename_i F fs hF
    rw[evFeet_mono hl hF]
    exact h
   ·simp at h
  ·rename_i hp
   rw[if_neg hp]
   split at h
   ·rename_i F hF
    rw[evOps_mono hl hF]
    exact h
   ·simp at h
 ·rename_i hd
  rw[if_neg hd]
  split at h
  ·rename_i F hF
   rw[evOpsK_mono hl hF]
   exact h
  ·simp at h
theorem evCode_mono {c c':Callee} (hl:Le c c') {lp lp':Code→St→Option (Ex×St)} (hlp:∀ k st r,lp k st=some r→lp' k st=some r):
  ∀ {k:Code} {st:St} {r},evCode E c me lp k st=some r→evCode E c' me lp' k st=some r:=by
 intro k
 induction k with
 | seq a b iha ihb=>
  intro st r h
  simp only[evCode] at h ⊢
  cases ha:evCode E c me lp a st with
  | none=>rw[ha] at h;simp at h
  | some p=>
   rw[ha] at h
   rw[iha ha]
   obtain⟨x,s1⟩:=p
   cases x with
   | normal=>exact ihb h
   | exit i=>exact h
   | ret=>exact h
 | cond o a b iha ihb=>
  intro st r h
  simp only[evCode] at h ⊢
  split at h
  ·rename_i t hv
   split at h
   ·rename_i ht;simp only[ht,if_true];exact iha h
   ·rename_i ht;simp only[if_neg ht];exact ihb h
  ·simp at h
 | block id b ihb=>
  intro st r h
  simp only[evCode] at h ⊢
  cases hb:evCode E c me lp b st with
  | none=>rw[hb] at h;simp at h
  | some p=>rw[hb] at h;rw[ihb hb];exact h
 | loop b _=>intro st r h;simp only[evCode] at h ⊢;exact hlp _ _ _ h
 | region id ops dr=>
  intro st r h
  simp only[evCode] at h ⊢
  split at h
  ·rename_i s1 h1;rw[evRegion_mono hl h1];exact h
  ·simp at h
 | skip=>intro st r h;simpa only[evCode] using h
 | ret=>intro st r h;simpa only[evCode] using h
 | exit id=>intro st r h;simpa only[evCode] using h
 | _=>intro st r h;simp[evCode] at h
theorem evLoop_mono {c c':Callee} (hl:Le c c'):∀ {k k':Nat},k≤k'→∀ {b:Code} {st:St} {r},evLoop E c me k b st=some r→evLoop E c' me k' b st=some r
 | 0,_,_,b,st,r,h=>by simp[evLoop] at h
 | k+1,0,hk,_,_,_,_=>by omega
 | k+1,k'+1,hk,b,st,r,h=>by
  simp only[evLoop] at h ⊢
  have ih:∀ b st r,evLoop E c me k b st=some r→evLoop E c' me k' b st=some r:=fun b st r h=>evLoop_mono hl (by omega) h
  cases hb:evCode E c me (evLoop E c me k) b st with
  | none=>rw[hb] at h;simp at h
  | some p=>
   rw[hb] at h
   rw[evCode_mono hl ih hb]
   obtain⟨x,s1⟩:=p
   cases x with
   | normal=>exact ih _ _ _ h
   | exit i=>exact h
   | ret=>exact h
theorem evBody_mono {c c':Callee} (hl:Le c c') {k k':Nat} (hk:k≤k') {f:FuncId} {fn:Func} {args:List Arg} {r:Res} (h:evBody E c k f fn args=some r):evBody E c' k' f fn args=some r:=by
 unfold evBody at h ⊢
 split at h
 ·simp at h
 ·rename_i b hb
  cases hc:evCode E c f (evLoop E c f k) b ⟨max fn.ntmps args.length,initFr 0 args,initRt 0 args,2⟩ with
  | none=>rw[hc] at h;simp at h
  | some p=>
   rw[hc] at h
   rw[evCode_mono hl (fun b st r h=>evLoop_mono hl hk h) hc]
   exact h
theorem evBodyB_mono {c c':Callee} (hl:Le c c') {k k':Nat} (hk:k≤k') {f:FuncId} {fn:Func} {args:List Arg} {r:Res} (h:evBodyB E c k f fn args=some r):evBodyB E c' k' f fn args=some r:=by
 obtain⟨b,bb,t,v,rest,cs,ro,y,row,x,st,g1,g2,g3,g4,g5,g6,g7,g8⟩:=bodyB_split h
 have h6:=evCode_mono (me:=f) hl (fun b st r h=>evLoop_mono hl hk h) g6
 unfold evBodyB at h ⊢
 rw[g1] at h ⊢
 simp only[g2] at h ⊢
 subst g3
 simp only at h ⊢
 split
 ·rename_i hc
  rw[if_pos hc] at h
  simp only[g5] at h ⊢
  rw[h6]
  rcases g7 with rfl | rfl<;>exact g8
 ·rename_i hc
  rw[if_neg hc] at h
  simp at h
theorem evF_succ:∀ (n:Nat),Le (evF E n) (evF E (n+1))
 | 0,f,a,r,h=>by simp[evF] at h
 | n+1,f,a,r,h=>by
  rw[evF] at h ⊢
  split at h
  ·exact h
  ·split at h
   ·rename_i hg
    split at h
    ·simp at h
    ·rename_i fn hf
     rw[if_pos hg]
     split at h
     ·rename_i hm;rw[if_pos hm];exact evBodyB_mono (evF_succ n) (Nat.le_succ n) h
     ·rename_i hm;rw[if_neg hm];exact evBody_mono (evF_succ n) (Nat.le_succ n) h
   ·simp at h
theorem evF_le {n m:Nat} (h:n≤m):Le (evF E n) (evF E m):=by
 induction h with
 | refl=>exact Le.refl _
 | step _ ih=>exact ih.trans (evF_succ _)
end mono
open Classical in
noncomputable def orc (E:Env):Callee:=fun f a=>if h:∃ r n,evF E n f a=some r then some h.choose else none
section orc
variable {E:Env} {me:FuncId}
theorem orc_fuel {f:FuncId} {a:List Arg} {r:Res}:orc E f a=some r↔∃ n,evF E n f a=some r:=by
 constructor
 ·intro h
  unfold orc at h
  split at h
  ·rename_i hx
   simp only[Option.some.injEq] at h
   rw[←h]
   exact hx.choose_spec
  ·simp at h
 ·rintro⟨n,hn⟩
  have hx:∃ r n,evF E n f a=some r:=⟨r,n,hn⟩
  unfold orc
  rw[dif_pos hx]
  obtain⟨m,hm⟩:=hx.choose_spec
  have h1:=evF_le (Nat.le_max_left n m) f a _ hn
  have h2:=evF_le (Nat.le_max_right n m) f a _ hm
  rw[h1] at h2
  exact h2.symm
theorem le_orc (n:Nat):Le (evF E n) (orc E):=fun _ _ _ h=>orc_fuel.2 ⟨n,h⟩
theorem evOne_cont {ops:List Oper} {st st':St} {o:Oper} (h:evOne E (orc E) me ops st o=some st'):∃ n,evOne E (evF E n) me ops st o=some st':=by
 unfold evOne gif at h ⊢
 split at h
 ·rename_i b hw
  cases b with
  | true=>
   rw[if_pos rfl] at h
   split at h
   ·rename_i e he
    rcases evOp_split he with h1 | ⟨f,a,r,h1,h2⟩
    ·exact⟨0,by simp only[if_true,(h1 (evF E 0)).1];exact h⟩
    ·obtain⟨n,hn⟩:=orc_fuel.1 h1
     exact⟨n,by simp only[if_true,(h2 (evF E n) hn).1];exact h⟩
   ·simp at h
  | false=>
   rw[if_neg (by simp)] at h
   exact⟨0,h⟩
 ·simp at h
theorem evOps_cont {ops:List Oper}:∀ {l:List Oper} {st st':St},evOps E (orc E) me ops l st=some st'→∃ n,evOps E (evF E n) me ops l st=some st'
 | [],_,_,h=>⟨0,h⟩
 | o::l,st,st',h=>by
  simp only[evOps] at h
  split at h
  ·rename_i s1 h1
   obtain⟨n,hn⟩:=evOne_cont h1
   obtain⟨m,hm⟩:=evOps_cont h
   refine⟨max n m,?_⟩
   simp only[evOps]
   rw[(evOne_mono (evF_le (Nat.le_max_left n m)) hn).1]
   exact evOps_mono (evF_le (Nat.le_max_right n m)) hm
  ·simp at h
theorem evOpsK_cont {ops:List Oper}:∀ {l:List Oper} {ks:List (List Tmp)} {st st':St},evOpsK E (orc E) me ops ks l st=some st'→∃ n,evOpsK E (evF E n) me ops ks l st=some st'
 | [],_,_,_,h=>⟨0,h⟩
 | o::l,ks,st,st',h=>by
  simp only[evOpsK] at h
  split at h
  ·rename_i s1 h1
   obtain⟨n,hn⟩:=evOne_cont h1
   cases ks with
   | nil=>
    obtain⟨m,hm⟩:=evOpsK_cont h
    refine⟨max n m,?_⟩
    simp only[evOpsK]
    rw[(evOne_mono (evF_le (Nat.le_max_left n m)) hn).1]
    exact evOpsK_mono (evF_le (Nat.le_max_right n m)) hm
   | cons k ks=>
    obtain⟨m,hm⟩:=evOpsK_cont h
    refine⟨max n m,?_⟩
    simp only[evOpsK]
    rw[(evOne_mono (evF_le (Nat.le_max_left n m)) hn).1]
    exact evOpsK_mono (evF_le (Nat.le_max_right n m)) hm
  ·simp at h
theorem evFeet_cont {ops:List Oper} {ps:List (Nat×Nat)}:∀ {l:List Oper} {i:Nat} {st:St} {r},evFeet E (orc E) me ops ps i l st=some r→∃ n,evFeet E (evF E n) me ops ps i l st=some r
 | [],_,_,_,h=>⟨0,h⟩
 | o::l,i,st,r,h=>by
  simp only[evFeet] at h
  split at h
  ·rename_i s1 h1
   split at h
   ·rename_i F fs h2
    obtain⟨n,hn⟩:=evOne_cont h1
    obtain⟨m,hm⟩:=evFeet_cont h2
    refine⟨max n m,?_⟩
    simp only[evFeet]
    obtain⟨q1,q2⟩:=evOne_mono (evF_le (Nat.le_max_left n m)) hn
    have q3:=(evOne_mono (le_orc (max n m)) q1).2
    rw[q1]
    simp only
    rw[evFeet_mono (evF_le (Nat.le_max_right n m)) hm]
    simp only
    rw[←q3]
    exact h
   ·simp at h
  ·simp at h
theorem evRegion_cont {id:Nat} {ops:List Oper} {dr:Bool} {st st':St} (h:evRegion E (orc E) me id ops dr st=some st'):∃ n,evRegion E (evF E n) me id ops dr st=some st':=by
 unfold evRegion at h ⊢
 by_cases hclr:E.clr me id=true
 ·exact⟨0,by rw[if_pos hclr] at h ⊢;exact h⟩
 simp only[if_neg hclr] at h ⊢
 split at h
 ·rename_i hd
  split at h
  ·rename_i hp
   split at h
   ·rename_i F fs hF
    obtain⟨n,hn⟩:=evFeet_cont hF
    exact⟨n,by rw[if_pos hd,if_pos hp,hn];exact h⟩
   ·simp at h
  ·rename_i hp
   split at h
   ·rename_i F hF
    obtain⟨n,hn⟩:=evOps_cont hF
    exact⟨n,by rw[if_pos hd,if_neg hp,hn];exact h⟩
   ·simp at h
 ·rename_i hd
  split at h
  ·rename_i F hF
   obtain⟨n,hn⟩:=evOpsK_cont hF
   exact⟨n,by rw[if_neg hd,hn];exact h⟩
  ·simp at h
theorem evCode_cont {lp:Code→St→Option (Ex×St)} {lpn:Nat→Code→St→Option (Ex×St)} (hc:∀ k st r,lp k st=some r→∃ n,lpn n k st=some r) (hm:∀ n m,n≤m→∀ k st r,lpn n k st=some r→lpn m k st=some r):
  ∀ {k:Code} {st:St} {r},evCode E (orc E) me lp k st=some r→∃ n,evCode E (evF E n) me (lpn n) k st=some r:=by
 intro k
 induction k with
 | seq a b iha ihb=>
  intro st r h
  simp only[evCode] at h
  cases ha:evCode E (orc E) me lp a st with
  | none=>rw[ha] at h;simp at h
  | some p=>
   rw[ha] at h
   obtain⟨n,hn⟩:=iha ha
   obtain⟨x,s1⟩:=p
   cases x with
   | normal=>
    obtain⟨m,hmm⟩:=ihb h
    refine⟨max n m,?_⟩
    simp only[evCode]
    rw[evCode_mono (evF_le (Nat.le_max_left n m)) (hm _ _ (Nat.le_max_left n m)) hn]
    exact evCode_mono (evF_le (Nat.le_max_right n m)) (hm _ _ (Nat.le_max_right n m)) hmm
   | exit i=>exact⟨n,by simp only[evCode];rw[hn];exact h⟩
   | ret=>exact⟨n,by simp only[evCode];rw[hn];exact h⟩
 | cond o a b iha ihb=>
  intro st r h
  simp only[evCode] at h ⊢
  split at h
  ·rename_i t hv
   split at h
   ·rename_i ht
    obtain⟨n,hn⟩:=iha h
    exact⟨n,by simp only[ht,if_true];exact hn⟩
   ·rename_i ht
    obtain⟨n,hn⟩:=ihb h
    exact⟨n,by simp only[if_neg ht];exact hn⟩
  ·simp at h
 | block id b ihb=>
  intro st r h
  simp only[evCode] at h ⊢
  cases hb:evCode E (orc E) me lp b st with
  | none=>rw[hb] at h;simp at h
  | some p=>
   rw[hb] at h
   obtain⟨n,hn⟩:=ihb hb
   exact⟨n,by rw[hn];exact h⟩
 | loop b _=>
  intro st r h
  simp only[evCode] at h ⊢
  exact hc _ _ _ h
 | region id ops dr=>
  intro st r h
  simp only[evCode] at h ⊢
  split at h
  ·rename_i s1 h1
   obtain⟨n,hn⟩:=evRegion_cont h1
   exact⟨n,by rw[hn];exact h⟩
  ·simp at h
 | skip=>intro st r h;exact⟨0,by simpa only[evCode] using h⟩
 | ret=>intro st r h;exact⟨0,by simpa only[evCode] using h⟩
 | exit id=>intro st r h;exact⟨0,by simpa only[evCode] using h⟩
 | _=>intro st r h;simp[evCode] at h
theorem evLoop_cont:∀ (k:Nat) {b:Code} {st:St} {r},evLoop E (orc E) me k b st=some r→∃ n,evLoop E (evF E n) me k b st=some r
 | 0,b,st,r,h=>by simp[evLoop] at h
 | k+1,b,st,r,h=>by
  simp only[evLoop] at h
  have hc:∀ b st r,evLoop E (orc E) me k b st=some r→∃ n,evLoop E (evF E n) me k b st=some r:=fun b st r h=>evLoop_cont k h
  have hm:∀ n m,n≤m→∀ b st r,evLoop E (evF E n) me k b st=some r→evLoop E (evF E m) me k b st=some r:=fun n m hnm b st r h=>evLoop_mono (evF_le hnm) (Nat.le_refl _) h
  cases hb:evCode E (orc E) me (evLoop E (orc E) me k) b st with
  | none=>rw[hb] at h;simp at h
  | some p=>
   rw[hb] at h
   obtain⟨n,hn⟩:=evCode_cont (lpn:=fun n=>evLoop E (evF E n) me k) hc hm hb
   obtain⟨x,s1⟩:=p
   cases x with
   | normal=>
    obtain⟨m,hmm⟩:=evLoop_cont k h
    refine⟨max n m,?_⟩
    simp only[evLoop]
    rw[evCode_mono (evF_le (Nat.le_max_left n m)) (hm _ _ (Nat.le_max_left n m)) hn]
    exact hm _ _ (Nat.le_max_right n m) _ _ _ hmm
   | exit i=>exact⟨n,by simp only[evLoop];rw[hn];exact h⟩
   | ret=>exact⟨n,by simp only[evLoop];rw[hn];exact h⟩
theorem orc_body {f:FuncId} {fn:Func} {args:List Arg} {r:Res} (k:Nat) (hx:E.ext f=none) (hg:E.good f=true) (hm:boxedM (E.mode f)=false) (hf:E.P.funcs[f]?=some fn) (h:evBody E (orc E) k f fn args=some r):orc E f args=some r:=by
 have:∃ n,evBody E (evF E n) k f fn args=some r:=by
  unfold evBody at h ⊢
  split at h
  ·simp at h
  ·rename_i b hb
   cases hc:evCode E (orc E) f (evLoop E (orc E) f k) b ⟨max fn.ntmps args.length,initFr 0 args,initRt 0 args,2⟩ with
   | none=>rw[hc] at h;simp at h
   | some p=>
    rw[hc] at h
    obtain⟨n,hn⟩:=evCode_cont (lpn:=fun n=>evLoop E (evF E n) f k) (fun b st r h=>evLoop_cont k h) (fun n m hnm b st r h=>evLoop_mono (evF_le hnm) (Nat.le_refl _) h) hc
    refine⟨n,?_⟩
    rw[hn]
    exact h
 obtain⟨n,hn⟩:=this
 refine orc_fuel.2 ⟨max n k+1,?_⟩
 simp only[evF,hx,hg,hf,hm,if_true,Bool.false_eq_true,if_false]
 exact evBody_mono (evF_le (Nat.le_max_left n k)) (Nat.le_max_right n k) hn
theorem orc_ext {f:FuncId} {g:List Arg→Option Res} {args:List Arg} {r:Res} (hx:E.ext f=some g) (h:g args=some r):orc E f args=some r:=
 orc_fuel.2 ⟨1,by simp only[evF,hx];exact h⟩
theorem orc_sound (h:Able E) {f:FuncId} {args:List Arg} {r:Res} (ho:orc E f args=some r):Sound E f args r∧Enters E f:=by
 obtain⟨n,hn⟩:=orc_fuel.1 ho
 exact evF_ok h n f args r hn
end orc
def sameV:Value→Value→Bool
 | .int k a,.int l b=>decide (k=l∧a=b)
 | .bool a,.bool b=>a==b
 | .string a,.string b=>a.data.toList==b.data.toList
 | .pointer none,.pointer none=>true
 | .nilFunc,.nilFunc=>true
 | .nilIface,.nilIface=>true
 | _,_=>false
theorem sameV_eq {a b:Value} (h:sameV a b=true):a=b:=by
 unfold sameV at h
 split at h
 ·have:=of_decide_eq_true h
  obtain⟨h1,h2⟩:=this
  subst h1;subst h2;rfl
 ·simp only[beq_iff_eq] at h;subst h;rfl
 ·rename_i a b
  cases a with
  | mk a=>cases b with
   | mk b=>
    have:=eq_of_beq h
    simp only at this
    rw[Array.ext' this]
 ·rfl
 ·rfl
 ·rfl
 ·simp at h
def zeroB (t:T) (u:Value):Bool:=
 match t with
 | .v x=>sameV x u&&oneVal u
 | .own _ []=>(match u with | .slice none 0 0=>true | _=>false)
 | _=>false
def zerosB:List T→List Value→Bool
 | [],[]=>true
 | t::ts,u::us=>zeroB t u&&zerosB ts us
 | _,_=>false
theorem zerosB_ok {sz hp I}:∀ {ts:List T} {us:List Value},zerosB ts us=true→okL sz hp I ts us []∧(∀ u,u∈us→oneVal u=true)∧ts.length=us.length
 | [],[],_=>⟨⟨rfl,rfl⟩,fun u hu=>by simp at hu,rfl⟩
 | t::ts,[],h=>by simp[zerosB] at h
 | [],u::us,h=>by simp[zerosB] at h
 | t::ts,u::us,h=>by
  simp only[zerosB,Bool.and_eq_true] at h
  obtain⟨h1,h2,h3⟩:=zerosB_ok (sz:=sz) (hp:=hp) (I:=I) h.2
  have h4:okV sz hp I t u []∧oneVal u=true:=by
   have hz:=h.1
   unfold zeroB at hz
   split at hz
   ·simp only[Bool.and_eq_true] at hz
    have:=sameV_eq hz.1
    subst this
    exact⟨⟨rfl,rfl⟩,hz.2⟩
   ·split at hz
    ·exact⟨.inl ⟨rfl,rfl,none,rfl⟩,rfl⟩
    ·simp at hz
   ·simp at hz
  refine⟨⟨u,us,[],[],rfl,rfl,h4.1,h1⟩,fun v hv=>?_,by simp[h3]⟩
  rcases List.mem_cons.1 hv with rfl | hv
  ·exact h4.2
  ·exact h2 v hv
def fieldsB (P:Program):List Field→List (Nat×Nat)→List TypeId→Bool
 | [],[],[]=>true
 | f::fs,(o,s)::is,t::ts=>f.offset==o&&f.type==t&&(match P.info? f.type with | some inf=>inf.size==s | none=>false)&&fieldsB P fs is ts
 | _,_,_=>false
def tokB (P:Program) (known:TypeId→Bool) (t:TypeId) (i:TInfo):Bool:=
 (match P.info? t with
  | some inf=>inf.size==i.size&&inf.bytes==i.bytes&&(match inf.zero with | some z=>z.cells.size==i.size&&zerosB i.zero z.cells.toList | none=>false)
  | none=>false) &&
 (match P.underlying t with
  | some desc=>i.agg==(match desc with | .struct _ | .array _ _=>true | _=>false)&&i.int==(match desc with | .int _=>true | _=>false) &&
   (match i.elem with | some e=>(match desc with | .slice e'=>e==e'&&known e | _=>false) | none=>true) &&
   (match desc with | .struct fs=>fieldsB P fs.toList i.fields i.ftys | _=>i.fields.isEmpty&&i.ftys.isEmpty)
  | none=>false)
theorem fieldsB_get {P:Program}:∀ {fs:List Field} {is:List (Nat×Nat)} {ts:List TypeId},fieldsB P fs is ts=true→
  (∀ (k off s:Nat),is[k]?=some (off,s)→∃ (f:Field) (inf:TypeInfo),fs[k]?=some f∧f.offset=off∧P.info? f.type=some inf∧inf.size=s)∧
  (∀ (k ft:Nat),ts[k]?=some ft→∀ (f:Field),fs[k]?=some f→f.type=ft)∧
  (∀ w,(fs.mapM fun f=>do pure (f.offset,←sizeOf f.type):Sem (List (Nat×Nat))).run P w=.ok is w)
 | [],[],[],_=>⟨fun k off s h=>by simp at h,fun k ft h=>by simp at h,fun w=>by simp⟩
 | [],[],_::_,h=>by simp[fieldsB] at h
 | [],_::_,_,h=>by simp[fieldsB] at h
 | _::_,[],_,h=>by simp[fieldsB] at h
 | _::_,_::_,[],h=>by simp[fieldsB] at h
 | f::fs,(o,s)::is,t::ts,h=>by
  simp only[fieldsB,Bool.and_eq_true,beq_iff_eq] at h
  obtain⟨⟨⟨h1,h2⟩,h3⟩,h4⟩:=h
  obtain⟨g1,g2,g3⟩:=fieldsB_get h4
  split at h3
  ·rename_i inf hinf
   simp only[beq_iff_eq] at h3
   refine⟨fun k off s' hk=>?_,fun k ft hk f' hf'=>?_,fun w=>?_⟩
   ·cases k with
    | zero=>
     simp only[List.getElem?_cons_zero,Option.some.injEq,Prod.mk.injEq] at hk
     obtain⟨rfl,rfl⟩:=hk
     exact⟨f,inf,by simp,h1,hinf,h3⟩
    | succ k=>
     simp only[List.getElem?_cons_succ] at hk
     obtain⟨f',inf',q⟩:=g1 k off s' hk
     exact⟨f',inf',by simpa using q⟩
   ·cases k with
    | zero=>
     simp only[List.getElem?_cons_zero,Option.some.injEq] at hk hf'
     subst hk;subst hf';exact h2
    | succ k=>
     simp only[List.getElem?_cons_succ] at hk hf'
     exact g2 k ft hk f' hf'
   ·have hs:(sizeOf f.type).run P w=.ok s w:=by simp[sizeOf,run_typeInfo hinf,h3]
    have hg:=g3 w
    simp only[List.mapM_cons,Sem.run_bind,hs,Result.andThen_ok,Sem.run_pure,hg,h1]
  ·simp at h3
theorem tokB_ok {E:Env} {t:TypeId} {i:TInfo} {known:TypeId→Bool} (hk:∀ e,known e=true→∃ ie,E.ti e=some ie) (h:tokB E.P known t i=true):TOk E t i:=by
 unfold tokB at h
 simp only[Bool.and_eq_true] at h
 obtain⟨h1,h2⟩:=h
 split at h1
 ·rename_i inf hinf
  split at h2
  ·rename_i desc hd
   simp only[Bool.and_eq_true,beq_iff_eq] at h1 h2
   obtain⟨⟨a1,a2⟩,a3⟩:=h1
   obtain⟨⟨⟨b1,b2⟩,b3⟩,b4⟩:=h2
   have fields:i.fields≠[]∨i.ftys≠[]→∃ fs,desc=.struct fs∧fieldsB E.P fs.toList i.fields i.ftys=true:=fun hne=>by
    split at b4
    ·rename_i fs
     exact⟨fs,rfl,b4⟩
    ·simp only[Bool.and_eq_true,List.isEmpty_iff] at b4
     rcases hne with h | h
     ·exact absurd b4.1 h
     ·exact absurd b4.2 h
   split at a3
   ·rename_i zv hz
    simp only[Bool.and_eq_true,beq_iff_eq] at a3
    refine⟨⟨inf,zv,hinf,a1,a2,hz,a3.1,?_,fun h I=>(zerosB_ok a3.2).1,(zerosB_ok (sz:=szOf E) (hp:=#[]) (I:=fun _=>True) a3.2).2.1⟩,⟨desc,hd,b1⟩,⟨desc,hd,b2⟩,fun e he=>?_,fun e he=>?_,fun k off s hf=>?_,fun hne=>?_,fun k ft hft fs f hfs hf=>?_⟩
    ·have:=(zerosB_ok (sz:=szOf E) (hp:=#[]) (I:=fun _=>True) a3.2).2.2
     rw[this,Array.length_toList];exact a3.1
    ·rw[he] at b3
     simp only at b3
     split at b3
     ·rename_i e'
      simp only[Bool.and_eq_true,beq_iff_eq] at b3
      rw[hd,b3.1]
     ·simp at b3
    ·rw[he] at b3
     simp only at b3
     split at b3
     ·simp only[Bool.and_eq_true] at b3
      exact hk e b3.2
     ·simp at b3
    ·obtain⟨fs,rfl,hfb⟩:=fields (.inl (fun h=>by rw[h] at hf;simp at hf))
     obtain⟨f,inf',q1,q2,q3,q4⟩:=(fieldsB_get hfb).1 k off s hf
     exact⟨fs,f,inf',hd,by simpa using q1,q2,q3,q4⟩
    ·obtain⟨fs,rfl,hfb⟩:=fields (.inl hne)
     refine⟨fs,hd,fun w=>?_⟩
     have:=(fieldsB_get hfb).2.2 w
     rw[Array.mapM_eq_mapM_toList]
     show ((fs.toList.mapM fun f=>do pure (f.offset,←sizeOf f.type):Sem (List (Nat×Nat))) >>= fun l=>pure l.toArray).run E.P w=_
     rw[Sem.run_bind,this]
     rfl
    ·obtain⟨fs',rfl,hfb⟩:=fields (.inr (fun h=>by rw[h] at hft;simp at hft))
     rw[hd] at hfs
     simp only[Option.some.injEq,TypeDesc.struct.injEq] at hfs
     subst hfs
     exact (fieldsB_get hfb).2.1 k ft hft f (by simpa using hf)
   ·simp at a3
  ·simp at h2
 ·simp at h1
def tableB (P:Program) (tab:List (Nat×TInfo)):Bool:=tab.all fun p=>tokB P (fun e=>(lk tab e).isSome) p.1 p.2
theorem tiOk_of {E:Env} {tab:List (Nat×TInfo)} (ht:E.ti=lk tab) (h:tableB E.P tab=true):TiOk E:=by
 intro t i hi
 rw[ht] at hi
 have:=List.all_eq_true.1 h (t,i) (lk_mem hi)
 exact tokB_ok (fun e he=>by rw[ht];exact Option.isSome_iff_exists.1 he) this
def goodsB (E:Env) (fs:List Nat):Bool:=fs.all fun f=>goodFn E f
def loopsC:Code→List Code
 | .loop c=>c::loopsC c
 | .seq a b=>loopsC a++loopsC b
 | .cond _ a b=>loopsC a++loopsC b
 | .block _ c=>loopsC c
 | _=>[]
def loopOf (f:Func) (n:Nat):Code:=
 match f.body with
 | some c=>((loopsC c)[n]?).getD .skip
 | none=>.skip
section
variable {E:Env} {call:FuncId→List Arg→Option Res} {me:FuncId}
theorem evLoop_next {k:Nat} {c:Code} {st st1:St} {r:Option (Ex×St)} (h:evCode E call me (evLoop E call me k) c st=some (.normal,st1)) (h2:evLoop E call me k c st1=r):
  evLoop E call me (k+1) c st=r:=by simp only[evLoop,h,h2]
theorem evLoop_out {k:Nat} {c:Code} {st st1:St} {x:Ex} (h:evCode E call me (evLoop E call me k) c st=some (x,st1)) (hx:x≠.normal):
  evLoop E call me (k+1) c st=some (x,st1):=by
 simp only[evLoop,h]
 cases x with
 | normal=>exact absurd rfl hx
 | _=>rfl
end
theorem drop_cons {α:Type} {all rest:List α} {i:Nat} {c:α} (h:all.drop i=c::rest):∃ h:i<all.length,all[i]=c∧all.drop (i+1)=rest:=by
 have hi:i<all.length:=by
  rcases Nat.lt_or_ge i all.length with h' | h'
  ·exact h'
  ·rw[List.drop_eq_nil_of_le h'] at h;simp at h
 refine⟨hi,?_,?_⟩
 ·have:=List.getElem?_drop (xs:=all) (i:=i) (j:=0)
  rw[h] at this
  simp[hi] at this
  exact this.symm
 ·rw[←List.tail_drop,h];rfl
theorem wrapI {n:Int} (h1:-9223372036854775808≤n) (h2:n<9223372036854775808):IntKind.i64.wrap n=n:=by
 simp[IntKind.wrap,IntKind.bits,IntKind.signed]
 omega
theorem sealEs_map {α:Type} {f g:α→List T} (h:∀ a,sealL (f a)=g a):∀ (l:List α),sealEs (l.map f)=l.map g
 | []=>rfl
 | a::l=>by simp only[List.map_cons,sealEs,h a,sealEs_map h l]
section ite
variable {c:Prop} [Decidable c]
theorem ite_T (x y:Value):(if c then T.v x else T.v y)=T.v (if c then x else y):=by split<;>rfl
theorem ite_vint (k:IntKind) (a b:Int):(if c then Value.int k a else Value.int k b)=Value.int k (if c then a else b):=by split<;>rfl
theorem ite_some' {α:Type} (a b:α):(if c then some a else some b)=some (if c then a else b):=by split<;>rfl
end ite
def orB (a b:Bool):Bool:=a||b
def andB (a b:Bool):Bool:=a&&b
def notB (a:Bool):Bool:=!a
section gif
variable {α:Type}
theorem orB_tl (b:Bool):orB true b=true:=rfl
theorem orB_fl (b:Bool):orB false b=b:=by cases b<;>rfl
theorem andB_tl (b:Bool):andB true b=b:=by cases b<;>rfl
theorem andB_fl (b:Bool):andB false b=false:=rfl
theorem orB_tr (b:Bool):orB b true=true:=by cases b<;>rfl
theorem orB_fr (b:Bool):orB b false=b:=by cases b<;>rfl
theorem andB_tr (b:Bool):andB b true=b:=by cases b<;>rfl
theorem andB_fr (b:Bool):andB b false=false:=by cases b<;>rfl
theorem notB_t:notB true=false:=rfl
theorem notB_f:notB false=true:=rfl
theorem notB_notB (b:Bool):notB (notB b)=b:=by cases b<;>rfl
theorem gif_t (x y:α):gif true x y=x:=rfl
theorem gif_f (x y:α):gif false x y=y:=rfl
theorem gif_same (b:Bool) (x:α):gif b x x=x:=by cases b<;>rfl
theorem gif_and (p q:Bool) (x y:α):gif (andB p q) x y=gif p (gif q x y) y:=by cases p<;>cases q<;>rfl
theorem gif_some (b:Bool) (x y:α):gif b (some x) (some y)=some (gif b x y):=by cases b<;>rfl
theorem gif_Eff (b:Bool) (v v':T) (r r':Option Root) (s s':List CSet):gif b (⟨v,r,s⟩:Eff) ⟨v',r',s'⟩=⟨gif b v v',gif b r r',gif b s s'⟩:=by cases b<;>rfl
theorem gif_T (b:Bool) (x y:Value):gif b (T.v x) (T.v y)=T.v (gif b x y):=by cases b<;>rfl
theorem gif_cg {b b':Bool} {x x' y y':α} (h:b=b') (h1:b'=true→x=x') (h2:b'=false→y=y'):gif b x y=gif b' x' y':=by
 subst h
 cases b
 ·exact h2 rfl
 ·exact h1 rfl
def eqW (q w:Bool):Bool:=q==w
theorem eqW_t (q:Bool):eqW q true=q:=by cases q<;>rfl
theorem eqW_f (q:Bool):eqW q false=notB q:=by cases q<;>rfl
theorem wantV_bool' (w b:Bool):wantV w (.bool b)=some (eqW b w):=rfl
theorem wantV_undef' (w:Bool):wantV w undef=some false:=rfl
theorem wantV_gif (w p:Bool) (x:Value):wantV w (gif p x undef)=gif p (wantV w x) (some false):=by cases p<;>rfl
theorem gif_bf (p q:Bool):gif p q false=andB p q:=by cases p<;>cases q<;>rfl
def pif {α:Type} (b:Bool) (x y:α):α:=if b=true then x else y
theorem pif_t (x y:α):pif true x y=x:=rfl
theorem pif_f (x y:α):pif false x y=y:=rfl
theorem pickT_v (t:Bool) (x y:Value):pickT t (T.v x) (T.v y)=T.v (pif t x y):=by cases t<;>rfl
theorem pick_or (p q:Bool):pif p (Value.bool true) (gif (notB p) (Value.bool q) undef)=Value.bool (orB p q):=by cases p<;>rfl
theorem pick_or2 (p q:Bool):pif (notB p) (Value.bool true) (gif p (Value.bool q) undef)=Value.bool (orB (notB p) q):=by cases p<;>rfl
theorem pick_or2a (p r q:Bool):pif (notB (andB p r)) (Value.bool true) (gif p (gif r (Value.bool q) undef) undef)=Value.bool (orB (notB (andB p r)) q):=by cases p<;>cases r<;>rfl
theorem pick_and (p q:Bool):pif p (gif p (Value.bool q) undef) (Value.bool false)=Value.bool (andB p q):=by cases p<;>rfl
theorem pick_and2 (p r q:Bool):pif (andB p r) (gif p (gif r (Value.bool q) undef) undef) (Value.bool false)=Value.bool (andB (andB p r) q):=by cases p<;>cases r<;>rfl
theorem pick_and4 (p r s q:Bool):pif (andB (andB p r) s) (gif p (gif r (gif s (Value.bool q) undef) undef) undef) (Value.bool false)=Value.bool (andB (andB (andB p r) s) q):=by cases p<;>cases r<;>cases s<;>rfl
theorem pick_and5 (p r s t q:Bool):pif (andB (andB (andB p r) s) t) (gif p (gif r (gif s (gif t (Value.bool q) undef) undef) undef) undef) (Value.bool false)=Value.bool (andB (andB (andB (andB p r) s) t) q):=by cases p<;>cases r<;>cases s<;>cases t<;>rfl
theorem pick_or3 (p q:Bool):pif p (Value.bool true) (Value.bool q)=Value.bool (orB p q):=by cases p<;>rfl
theorem pick_and3 (p q:Bool):pif p (Value.bool q) (Value.bool false)=Value.bool (andB p q):=by cases p<;>rfl
end gif
section code
variable (E:Env) (call:FuncId→List Arg→Option Res) (me:FuncId) (lp:Code→St→Option (Ex×St))
def thenC (b:Code) (r:Option (Ex×St)):Option (Ex×St):=
 match r with
 | some (.normal,st)=>evCode E call me lp b st
 | r=>r
def outB (id:Nat) (r:Option (Ex×St)):Option (Ex×St):=
 match r with
 | some (.exit i,st)=>some (if i=id then .normal else .exit i,st)
 | r=>r
def endB (f:FuncId) (fn:Func) (args:List Arg) (r:Option (Ex×St)):Option Res:=
 match r with
 | some (.normal,st)=>finishX E f fn args st
 | some (.ret,st)=>finishX E f fn args st
 | _=>none
theorem code_seq (a b:Code) (st:St):evCode E call me lp (.seq a b) st=thenC E call me lp b (evCode E call me lp a st):=rfl
theorem code_block (id:Nat) (c:Code) (st:St):evCode E call me lp (.block id c) st=outB id (evCode E call me lp c st):=rfl
theorem code_skip (st:St):evCode E call me lp .skip st=some (.normal,st):=rfl
theorem code_ret (st:St):evCode E call me lp .ret st=some (.ret,st):=rfl
theorem code_exit (id:Nat) (st:St):evCode E call me lp (.exit id) st=some (.exit id,st):=rfl
theorem code_loop (c:Code) (st:St):evCode E call me lp (.loop c) st=lp c st:=rfl
theorem code_cond (c:Operand) (a b:Code) (st:St):evCode E call me lp (.cond c a b) st=match St.val st.fr c with
  | some (.v (.bool t))=>if t=true then evCode E call me lp a st else evCode E call me lp b st
  | _=>none:=rfl
theorem code_region (id:Nat) (ops:Array Oper) (dr:Bool) (st:St):evCode E call me lp (.region id ops dr) st=match evRegion E call me id ops.toList dr st with | some st=>some (.normal,st) | none=>none:=rfl
theorem thenC_normal (b:Code) (st:St):thenC E call me lp b (some (.normal,st))=evCode E call me lp b st:=rfl
theorem thenC_ret (b:Code) (st:St):thenC E call me lp b (some (.ret,st))=some (.ret,st):=rfl
theorem thenC_exit (b:Code) (i:Nat) (st:St):thenC E call me lp b (some (.exit i,st))=some (.exit i,st):=rfl
theorem thenC_none (b:Code):thenC E call me lp b none=none:=rfl
theorem outB_normal (id:Nat) (st:St):outB id (some (.normal,st))=some (.normal,st):=rfl
theorem outB_ret (id:Nat) (st:St):outB id (some (.ret,st))=some (.ret,st):=rfl
theorem outB_exit (id i:Nat) (st:St):outB id (some (.exit i,st))=some (if i=id then .normal else .exit i,st):=rfl
theorem outB_none (id:Nat):outB id none=none:=rfl
theorem endB_normal (f:FuncId) (fn:Func) (args:List Arg) (st:St):endB E f fn args (some (.normal,st))=finishX E f fn args st:=rfl
theorem endB_ret (f:FuncId) (fn:Func) (args:List Arg) (st:St):endB E f fn args (some (.ret,st))=finishX E f fn args st:=rfl
theorem body_eq (n:Nat) (f:FuncId) (fn:Func) (args:List Arg):evBody E call n f fn args=match fn.body with
  | none=>none
  | some c=>endB E f fn args (evCode E call f (evLoop E call f n) c ⟨max fn.ntmps args.length,initFr 0 args,initRt 0 args,2⟩):=rfl
variable {c:Prop} [Decidable c]
theorem thenC_ite (b:Code) (x y:Option (Ex×St)):thenC E call me lp b (if c then x else y)=if c then thenC E call me lp b x else thenC E call me lp b y:=by split<;>rfl
theorem thenC_ite' (b:Code) (x y:Ex×St):thenC E call me lp b (some (if c then x else y))=if c then thenC E call me lp b (some x) else thenC E call me lp b (some y):=by split<;>rfl
theorem outB_ite (id:Nat) (x y:Option (Ex×St)):outB id (if c then x else y)=if c then outB id x else outB id y:=by split<;>rfl
theorem outB_ite' (id:Nat) (x y:Ex×St):outB id (some (if c then x else y))=if c then outB id (some x) else outB id (some y):=by split<;>rfl
theorem endB_ite (f:FuncId) (fn:Func) (args:List Arg) (x y:Option (Ex×St)):endB E f fn args (if c then x else y)=if c then endB E f fn args x else endB E f fn args y:=by split<;>rfl
theorem endB_ite' (f:FuncId) (fn:Func) (args:List Arg) (x y:Ex×St):endB E f fn args (some (if c then x else y))=if c then endB E f fn args (some x) else endB E f fn args (some y):=by split<;>rfl
def nextL (k:Nat) (b:Code) (r:Option (Ex×St)):Option (Ex×St):=
 match r with
 | some (.normal,st)=>evLoop E call me k b st
 | r=>r
theorem loop_eq (k:Nat) (b:Code) (st:St):evLoop E call me (k+1) b st=nextL E call me k b (evCode E call me (evLoop E call me k) b st):=rfl
theorem nextL_normal (k:Nat) (b:Code) (st:St):nextL E call me k b (some (.normal,st))=evLoop E call me k b st:=rfl
theorem nextL_ret (k:Nat) (b:Code) (st:St):nextL E call me k b (some (.ret,st))=some (.ret,st):=rfl
theorem nextL_exit (k:Nat) (b:Code) (i:Nat) (st:St):nextL E call me k b (some (.exit i,st))=some (.exit i,st):=rfl
theorem nextL_ite (k:Nat) (b:Code) (x y:Option (Ex×St)):nextL E call me k b (if c then x else y)=if c then nextL E call me k b x else nextL E call me k b y:=by split<;>rfl
theorem nextL_ite' (k:Nat) (b:Code) (x y:Ex×St):nextL E call me k b (some (if c then x else y))=if c then nextL E call me k b (some x) else nextL E call me k b (some y):=by split<;>rfl
theorem ite_Res (t t':T) (o o':List (Nat×List T)) (b b':Bool):(if c then (⟨t,o,b⟩:Res) else ⟨t',o',b'⟩)=⟨if c then t else t',if c then o else o',if c then b else b'⟩:=by split<;>rfl
end code
open Go Go.RowKit
def tilesB (P:Program):List Field→Nat→Nat→Bool
 | [],a,tot=>a==tot
 | f::fs,a,tot=>f.offset==a&&tilesB P fs (a+P.cellsOf f.type) tot
def plainT (sz:TypeId→Nat) (P:Program):Nat→TypeId→Bool
 | 0,_=>false
 | n+1,t=>
  match P.underlying t with
  | some .bool | some (.int _) | some .string=>true
  | some (.slice e)=>sz e==P.cellsOf e&&P.cellsOf e != 0&&P.bytesOf e != 0&&plainT sz P n e
  | some (.struct fs)=>tilesB P fs.toList 0 (P.cellsOf t)&&fs.toList.all fun f=>plainT sz P n f.type
  | _=>false
def treeFs (Q:TypeId→List T→Prop):List Field→List T→Prop
 | [],ts=>ts=[]
 | f::fs,ts=>∃ c r,ts=c++r∧Q f.type c∧treeFs Q fs r
def TreeT (P:Program):Nat→TypeId→List T→Prop
 | 0,_,_=>False
 | n+1,t,ts=>
  match P.underlying t with
  | some .bool=>∃ b,ts=[.v (.bool b)]
  | some (.int k)=>∃ x,ts=[.v (.int k x)]∧(Lit.int k x).wf=true
  | some .string=>∃ s:ByteArray,ts=[.v (.string s)]∧s.size≤reachBytes
  | some (.slice e)=>∃ es,ts=[.sl e es]∧es.length≤reachBytes∧∀ c,c∈es→TreeT P n e c
  | some (.struct fs)=>treeFs (TreeT P n) fs.toList ts
  | _=>False
theorem okL_glue {sz h I}:∀ {c d:List T} {us vs:List Value},okL sz h I c us []→okL sz h I d vs []→okL sz h I (c++d) (us++vs) []
 | [],d,us,vs,h1,h2=>by
  simp only[okL] at h1
  rw[h1.1];simpa using h2
 | t::c,d,us,vs,h1,h2=>by
  simp only[okL] at h1
  obtain⟨u,us',f1,f2,rfl,hf,h3,h4⟩:=h1
  have e:=List.append_eq_nil_iff.1 hf.symm
  obtain⟨rfl,rfl⟩:=e
  exact⟨u,us'++vs,[],[],rfl,rfl,h3,okL_glue h4 h2⟩
theorem okEs_mk {sz h I} {s:Nat} {Q:List T→Prop}:∀ (m:Nat) (l:List Value),
  (∀ i,i<m→∃ c,Q c∧c.length=s∧okL sz h I c ((l.drop (i*s)).take s) [])→∃ es:List (List T),es.length=m∧(∀ c,c∈es→Q c)∧okEs sz h I s es l []
 | 0,l,_=>⟨[],rfl,fun c hc=>by simp at hc,rfl⟩
 | m+1,l,hx=>by
  obtain⟨c,q,hl,hc⟩:=hx 0 (by omega)
  obtain⟨es,h1,h2,h3⟩:=okEs_mk (Q:=Q) m (l.drop s) (fun i hi=>by
   obtain⟨c,q,hl,hc⟩:=hx (i+1) (by omega)
   refine⟨c,q,hl,?_⟩
   rw[List.drop_drop]
   have e:s+i*s=(i+1)*s:=by rw[Nat.add_mul];omega
   rw[e];exact hc)
  refine⟨c::es,by simp[h1],fun d hd=>?_,[],[],hl,rfl,by simpa using hc,h3⟩
  rcases List.mem_cons.1 hd with rfl | hd
  ·exact q
  ·exact h2 d hd
section
variable {H:Type} {enc:TypeId×Value→H} {P:Program} {w:World} {base:Nat} {spare:Nat→Bool} {held:Bool} {sz:TypeId→Nat} {I:Nat→Prop}
theorem read_fields {Q:TypeId→List T→Prop} {tot:Nat} {cs:List Value}:∀ (fs:List Field) (a:Nat),tilesB P fs a tot=true→cs.length=tot→a≤tot→
  (∀ f,f∈fs→∃ ts,Q f.type ts∧okL sz w.heap I ts ((cs.drop f.offset).take (P.cellsOf f.type)) [])→∃ ts,treeFs Q fs ts∧okL sz w.heap I ts (cs.drop a) []
 | [],a,ht,hl,ha,hx=>by
  simp only[tilesB,beq_iff_eq] at ht
  refine⟨[],rfl,?_⟩
  rw[List.drop_eq_nil_of_le (by omega)];exact⟨rfl,rfl⟩
 | f::fs,a,ht,hl,ha,hx=>by
  simp only[tilesB,Bool.and_eq_true,beq_iff_eq] at ht
  obtain⟨h1,h2⟩:=ht
  obtain⟨c,q1,q2⟩:=hx f (by simp)
  have hle:a+P.cellsOf f.type≤tot:=by
   clear hx q1 q2
   have:∀ (fs:List Field) (a:Nat),tilesB P fs a tot=true→a≤tot:=by
    intro fs
    induction fs with
    | nil=>intro a h;simp[tilesB] at h;omega
    | cons g gs ih=>
     intro a h
     simp only[tilesB,Bool.and_eq_true] at h
     have:=ih _ h.2;omega
   exact this fs _ h2
  obtain⟨r,q3,q4⟩:=read_fields fs (a+P.cellsOf f.type) h2 hl hle (fun g hg=>hx g (by simp[hg]))
  refine⟨c++r,⟨c,r,rfl,q1,q3⟩,?_⟩
  have e:cs.drop a=(cs.drop f.offset).take (P.cellsOf f.type)++cs.drop (a+P.cellsOf f.type):=by
   rw[h1,←List.drop_drop,List.take_append_drop]
  rw[e];exact okL_glue q2 q4
theorem weightsAll_mem {e:TypeId} {k:Nat} {d:DataW H} (hk:k∈d.weights P e):∀ {l:List (DataW H)},d∈l→k∈DataW.weightsAll P e l
 | [],h=>by simp at h
 | x::l,h=>by
  unfold DataW.weightsAll
  rcases List.mem_cons.1 h with rfl | h
  ·exact List.mem_append_left _ hk
  ·exact List.mem_append_right _ (weightsAll_mem hk h)
theorem weightsEach_mem {k:Nat} {d:DataW H} {t:TypeId} (hk:k∈d.weights P t):∀ {ts:List TypeId} {l:List (DataW H)} {i:Nat},ts[i]?=some t→l[i]?=some d→k∈DataW.weightsEach P ts l
 | [],l,i,h,_=>by simp at h
 | _::_,[],i,_,h=>by simp at h
 | t'::ts,d'::l,0,h1,h2=>by
  simp at h1 h2
  subst h1;subst h2
  unfold DataW.weightsEach
  exact List.mem_append_left _ hk
 | t'::ts,d'::l,i+1,h1,h2=>by
  unfold DataW.weightsEach
  exact List.mem_append_right _ (weightsEach_mem hk (by simpa using h1) (by simpa using h2))
theorem read_ok (hI:∀ b,b<w.heap.size→I b):∀ (n:Nat) (fuel:Nat) (t:TypeId) (cs:List Value) (x:DataW H×List MemPlace),plainT sz P n t=true→
  DataW.trod enc P w base spare held fuel t cs=some x→(∀ k,k∈x.1.weights P t→k≤reachBytes)→∃ ts,TreeT P n t ts∧okL sz w.heap I ts cs []
 | 0,_,_,_,_,h,_,_=>by simp[plainT] at h
 | n+1,fuel,t,cs,x,hp,h,hwt=>by
  unfold plainT at hp
  unfold TreeT
  split at hp
  ·rename_i hu
   obtain⟨b,rfl,_⟩:=DataW.trod_bool hu h
   exact⟨_,⟨b,rfl⟩,⟨_,[],[],[],rfl,rfl,⟨rfl,rfl⟩,⟨rfl,rfl⟩⟩⟩
  ·rename_i hu
   obtain⟨b,rfl,_,hw⟩:=DataW.trod_int hu h
   exact⟨_,⟨b,rfl,hw⟩,⟨_,[],[],[],rfl,rfl,⟨rfl,rfl⟩,⟨rfl,rfl⟩⟩⟩
  ·rename_i hu
   obtain⟨b,rfl,rfl,hw⟩:=DataW.trod_string hu h
   have hw:=hwt b.data.toList.length (by simp[DataW.weights])
   exact⟨_,⟨b,rfl,hw⟩,⟨_,[],[],[],rfl,rfl,⟨rfl,rfl⟩,⟨rfl,rfl⟩⟩⟩
  ·rename_i e hu
   simp only[Bool.and_eq_true,beq_iff_eq,bne_iff_ne] at hp
   obtain⟨⟨⟨p1,p2⟩,p4⟩,p3⟩:=hp
   rcases DataW.trod_slice hu h with⟨rfl,_⟩ | ⟨a,len,cap,elems,rest,m,_,rfl,rfl,hb,hl,hm,hlen,hel,_,_⟩
   ·exact⟨[.sl e []],⟨[],rfl,by simp,fun c hc=>by simp at hc⟩,⟨_,[],[],[],rfl,rfl,⟨rfl,none,0,rfl,Nat.le_refl _,.inl rfl⟩,⟨rfl,rfl⟩⟩⟩
   ·rcases Nat.eq_zero_or_pos len with h0 | h0
    ·subst h0
     exact⟨[.sl e []],⟨[],rfl,by simp,fun c hc=>by simp at hc⟩,⟨_,[],[],[],rfl,rfl,⟨rfl,some a,cap,rfl,by simp,.inl rfl⟩,⟨rfl,rfl⟩⟩⟩
    ·have hwl:len≤reachBytes:=by
      have:=hwt ((elems.length+rest.length)*P.bytesOf e) (by simp[DataW.weights,hu])
      have h1:elems.length+rest.length≤(elems.length+rest.length)*P.bytesOf e:=Nat.le_mul_of_pos_right _ (by omega)
      omega
     have hwe:∀ y,y∈elems→∀ k,k∈y.1.weights P e→k≤reachBytes:=fun y hy k hk=>hwt k (by
      have:k∈DataW.weightsAll P e (elems.map (·.1)):=weightsAll_mem hk (List.mem_map_of_mem hy)
      simp[DataW.weights,hu,this])
     have hcell:∀ i,i<len→∃ cs',w.cells? base (a.add (i*P.cellsOf e)) (P.cellsOf e)=some cs'∧∃ y,DataW.trod enc P w base spare held m e cs'=some y∧y∈elems:=fun i hi=>by
      have hx:=hel i hi
      have hs:elems[i]?=some elems[i]:=by simp[hlen,hi]
      rw[hs] at hx
      cases hc:w.cells? base (a.add (i*P.cellsOf e)) (P.cellsOf e) with
      | none=>rw[hc] at hx;simp at hx
      | some cs'=>rw[hc] at hx;exact⟨cs',rfl,_,hx,List.getElem_mem _⟩
     obtain⟨cs0,hc0,_⟩:=hcell 0 h0
     obtain⟨_,hl0,hg0⟩:=World.cells?_some hc0
     have hg:=hg0 0 (by omega)
     have hadd:(a.add (0*P.cellsOf e)).add 0=a:=by simp[Addr.add]
     rw[hadd] at hg
     obtain⟨b,o,spot⟩:=a
     have hcs0:cs0[0]?=some cs0[0]:=by simp
     rw[hcs0] at hg
     unfold World.cell? at hg
     cases hblk:w.heap[b]? with
     | none=>simp only at hg;rw[hblk] at hg;simp at hg
     | some ob=>
      cases ob with
      | cells arr el fz=>
       simp only at hg
       rw[hblk] at hg
       simp only at hg
       split at hg
       ·simp at hg
       ·rename_i hsp
        have hsp:spot=none:=by cases spot<;>simp_all
        subst hsp
        have hbs:b<w.heap.size:=(Array.getElem?_eq_some_iff.1 hblk).1
        have hcs:∀ i,i<len→∀ cs',w.cells? base ((⟨b,o,none⟩:Addr).add (i*P.cellsOf e)) (P.cellsOf e)=some cs'→cs'=(arr.toList.drop (o+i*P.cellsOf e)).take (P.cellsOf e):=fun i hi cs' hc=>by
         obtain⟨_,hl',hg'⟩:=World.cells?_some hc
         have hadd:∀ j,((⟨b,o,none⟩:Addr).add (i*P.cellsOf e)).add j=⟨b,o+i*P.cellsOf e+j,none⟩:=fun j=>by
          unfold Addr.add
          by_cases e1:i*P.cellsOf e=0<;>by_cases e2:j=0<;>simp[e1,e2]
         have hget:∀ j,j<P.cellsOf e→arr.toList[o+i*P.cellsOf e+j]?=cs'[j]?:=fun j hj=>by
          have:=hg' j hj
          rw[hadd j] at this
          unfold World.cell? at this
          rw[hblk] at this
          simpa using this
         apply List.ext_getElem?
         intro j
         rw[List.getElem?_take,List.getElem?_drop]
         split
         ·rename_i hj;exact (hget j hj).symm
         ·rw[List.getElem?_eq_none];omega
        obtain⟨es,g1,g2,g3⟩:=okEs_mk (sz:=sz) (h:=w.heap) (I:=I) (s:=P.cellsOf e) (Q:=TreeT P n e) len (arr.toList.drop o) (fun i hi=>by
         obtain⟨cs',hc,y,hy,hye⟩:=hcell i hi
         obtain⟨ts,q1,q2⟩:=read_ok hI n m e cs' y p3 hy (hwe y hye)
         have hl':=(World.cells?_some hc).2.1
         have e1:=hcs i hi cs' hc
         refine⟨ts,q1,by rw[←okL_length q2];exact hl',?_⟩
         rw[List.drop_drop,←e1];exact q2)
        refine⟨[.sl e es],⟨es,rfl,by omega,g2⟩,⟨_,[],[],[],rfl,rfl,⟨rfl,some ⟨b,o,none⟩,cap,by rw[g1],by omega,.inr ⟨b,o,arr,el,fz,rfl,hI b hbs,hblk,?_⟩⟩,⟨rfl,rfl⟩⟩⟩
        rw[p1];exact g3
      | _=>simp only at hg;rw[hblk] at hg;simp at hg
  ·rename_i fs hu
   simp only[Bool.and_eq_true,List.all_eq_true] at hp
   obtain⟨p1,p2⟩:=hp
   obtain⟨xs,m,_,rfl,hl,hxs,hf⟩:=DataW.trod_struct hu h
   obtain⟨ts,q1,q2⟩:=read_fields (P:=P) (w:=w) (sz:=sz) (I:=I) (Q:=TreeT P n) fs.toList 0 p1 hl (by omega) (fun f hf'=>by
    obtain⟨i,hi,he⟩:=List.getElem_of_mem hf'
    have hi':i<fs.size:=by simpa using hi
    have h1:fs[i]?=some f:=by rw[←he];simp
    have h2:=hf i f h1
    have h3:xs[i]?=some xs[i]:=by simp
    rw[h3] at h2
    exact read_ok hI n m f.type _ _ (p2 f hf') h2 fun k hk=>hwt k (by
     simp only[DataW.weights,hu]
     exact weightsEach_mem hk (i:=i) (by simp[h1]) (by simp[h3])))
   exact⟨ts,q1,by simpa using q2⟩
  ·simp at hp
end
theorem read_arg {H:Type} {enc:TypeId×Value→H} {P:Program} {w:World} {base:Nat} {spare:Nat→Bool} {held:Bool} {sz:TypeId→Nat} {I:Nat→Prop} (hI:∀ b,b<w.heap.size→I b)
  {n:Nat} {t:TypeId} {v:Value} {d:DataW H} {ps:List MemPlace} (hp:plainT sz P n t=true) (h:DataW.Trod enc P w base spare held t v d ps) (hv:v.cells=#[v]) (hwt:∀ k,k∈d.weights P t→k≤reachBytes):
  ∃ ts,TreeT P n t ts∧okL sz w.heap I ts [v] []:=by
 obtain⟨fuel,hf⟩:=h
 rw[hv] at hf
 exact read_ok hI n fuel t [v] _ hp hf hwt
end Go.TM
namespace Go.TM.It
open Go Go.TM Go.Proofs
def viewT (f:Nat):Option View:=none
theorem view_holds {E:Env} (hP:E.P=Tryz.prog):∀ f v,viewT f=some v→ViewOk E f v:=fun f v h=>by simp[viewT] at h
end Go.TM.It
