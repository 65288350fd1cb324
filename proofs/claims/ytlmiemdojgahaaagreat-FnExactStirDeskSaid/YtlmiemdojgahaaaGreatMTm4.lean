/- Of the tree machine: its evaluator and why it is sound. -/
import Derived.Test.YtlmiemdojgahaaaGreatMTm3
import Derived.Carry
import Derived.ChangeArms
import Derived.ChangeShapes
import Derived.OpenShut
import GoSem.ClaimJoined
import Derived.Test.YtlmiemdojgahaaaGreatProg
import Derived.Shelf.RegionOpenPlain
import Derived.WalkKit
import Derived.Deep.LoopGhost
import Derived.Deep.RegionLaw
import Derived.Lib.Walk
import Derived.Lib.SliceRun
import Derived.Deep.MidRow
set_option linter.unusedSimpArgs false
set_option linter.unusedVariables false
namespace Go.TM
open Go
theorem xQ {α β:Type} {rt:List (Nat×Root)}:∀ {m:Rd α} {k:α→Rd β} {a:α},m.run rt=some a→(m.bind k).touched rt=m.touched rt++(k a).touched rt
 | .ret b,k,a,h=>by simp only[Rd.run,Option.some.injEq] at h;subst h;rfl
 | .fail,k,a,h=>by simp[Rd.run] at h
 | .cell hh d v c k0,k,a,h=>by
  obtain⟨r,t,h1,h2,h3,h4⟩:=Y7 h
  simp only[Rd.bind,Rd.touched,h1,h2,h3,if_true]
  rw[xQ h4];rfl
 | .root hh d v k0,k,a,h=>by
  simp only[Rd.run] at h
  split at h
  ·rename_i r hl
   split at h
   ·rename_i hv
    simp only[Rd.bind,Rd.touched,hl,hv,if_true]
    rw[xQ h];rfl
   ·simp at h
  ·simp at h
 | .stamp hh d v k0,k,a,h=>by
  obtain⟨r,h1,h2,h3⟩:=Ci h
  simp only[Rd.bind,Rd.touched,h1,h2,if_true]
  rw[xQ h3];rfl
abbrev S9:=FuncId→List Arg→Option Res
def Le (c c':S9):Prop:=∀ f a r,c f a=some r→c' f a=some r
theorem Le.refl (c:S9):Le c c:=fun _ _ _ h=>h
theorem Le.trans {a b c:S9} (h:Le a b) (h':Le b c):Le a c:=fun f x r hr=>h' f x r (h f x r hr)
def Alike {α:Type} (rt:List (Nat×Root)) (x y:Rd α) (e:α):Prop:=y.run rt=some e∧y.touched rt=x.touched rt
theorem Alike.bind {α β:Type} {rt:List (Nat×Root)} {m:Rd α} {k k':α→Rd β} {a:α} {e:β} (h:m.run rt=some a) (hk:Alike rt (k a) (k' a) e):Alike rt (m.bind k) (m.bind k') e:=
 ⟨by rw[kV h];exact hk.1,by rw[xQ h,xQ h,hk.2]⟩
section mono
variable {E:Env} {me:FuncId}
theorem e9n {c:S9} {d tick:Nat} {f:FuncId} {tys:List TypeId} {ts:List T} {rt:List (Nat×Root)} {e:Eff} (h:(mT E c me d tick f tys ts).run rt=some e):
  ∃ a r,c f a=some r∧∀ c':S9,c' f a=some r→Alike rt (mT E c me d tick f tys ts) (mT E c' me d tick f tys ts) e:=by
 unfold mT at h ⊢
 obtain⟨l,h1,h2⟩:=A8 h
 split at h2
 ·rename_i U0
  cases hc:c f l.args with
  | none=>rw[hc] at h2;simp[Rd.run] at h2
  | some r=>
   refine⟨l.args,r,hc,fun c' hc'=>Alike.bind h1 ?_⟩
   rw[hc] at h2
   rw[if_pos U0,if_pos U0,hc,hc']
   exact⟨h2,rfl⟩
 ·simp[Rd.run] at h2
theorem Alike.root {α:Type} {rt:List (Nat×Root)} {hh:Bool} {d v:Nat} {k k':Root→Rd α} {ro:Root} {e:α} (h1:lk rt d=some ro) (h2:ro.at_ hh=v) (hk:Alike rt (k ro) (k' ro) e):Alike rt (.root hh d v k) (.root hh d v k') e:=by
 refine⟨?_,?_⟩
 ·simp only[Rd.run,h1,h2,if_true];exact hk.1
 ·simp only[Rd.touched,h1,h2,if_true];rw[hk.2]
theorem f3b {c:S9} {f:FuncId} {ts:List T} {rt:List (Nat×Root)} {e:Eff} (h:(aT c f ts).run rt=some e):
  ∃ a r,c f a=some r∧∀ c':S9,c' f a=some r→Alike rt (aT c f ts) (aT c' f ts) e:=by
 unfold aT at h ⊢
 split at h
 ·unfold dV at h ⊢
  obtain⟨q,h1,h2⟩:=A8 h
  obtain⟨ys,h3,h4⟩:=A8 h2
  split at h4
  ·rename_i r hr
   refine⟨_,r,hr,fun c' hc'=>Alike.bind h1 (Alike.bind h3 ?_)⟩
   simp only[hr,hc']
   exact⟨h4,rfl⟩
  ·simp[Rd.run] at h4
 ·unfold eJ at h ⊢
  obtain⟨p,h1,h2⟩:=A8 h
  obtain⟨ro,g1,g2,h3⟩:=dF h2
  obtain⟨row,h4,h5⟩:=A8 h3
  obtain⟨ys,h6,h7⟩:=A8 h5
  split at h7
  ·rename_i r hr
   refine⟨_,r,hr,fun c' hc'=>Alike.bind h1 ?_⟩
   refine Alike.root g1 g2 ?_
   refine Alike.bind h4 (Alike.bind h6 ?_)
   simp only[hr,hc']
   exact⟨h7,rfl⟩
  ·simp[Rd.run] at h7
 ·simp[Rd.run] at h
theorem d7w {c:S9} {d tick:Nat} {f:FuncId} {tys:List TypeId} {ts:List T} {rt:List (Nat×Root)} {e:Eff} (h:(mC E c me d tick f tys ts).run rt=some e):
  ∃ a r,c f a=some r∧∀ c':S9,c' f a=some r→Alike rt (mC E c me d tick f tys ts) (mC E c' me d tick f tys ts) e:=by
 unfold mC at h ⊢
 obtain⟨l,h1,h2⟩:=A8 h
 cases hw:l.way with
 | nil=>rw[hw] at h2;simp[Rd.run] at h2
 | cons y ys=>
  cases ys with
  | cons y2 ys=>rw[hw] at h2;simp[Rd.run] at h2
  | nil=>
   rw[hw] at h2
   simp only at h2
   by_cases pL:l.used.contains y.d=true
   ·rw[if_pos pL] at h2;simp[Rd.run] at h2
   ·rw[if_neg pL] at h2
    cases hc:c f l.args with
    | none=>rw[hc] at h2;simp[Rd.run] at h2
    | some r=>
     refine⟨l.args,r,hc,fun c' hc'=>Alike.bind h1 ?_⟩
     rw[hc] at h2
     rw[hw]
     simp only[if_neg pL,hc,hc']
     exact⟨h2,rfl⟩
theorem e1i {c:S9} {d tick:Nat} {f:FuncId} {tys:List TypeId} {ts:List T} {rt:List (Nat×Root)} {e:Eff} (h:(oX E c me d tick f tys ts).run rt=some e):
  ∃ a r,c f a=some r∧∀ c':S9,c' f a=some r→Alike rt (oX E c me d tick f tys ts) (oX E c' me d tick f tys ts) e:=by
 unfold oX at h ⊢
 split at h
 ·rename_i hl;simp only[hl,if_true];exact f3b h
 ·rename_i hl
  simp only[hl,if_false]
  split at h
  ·rename_i hf;simp only[hf,if_true];exact d7w h
  ·rename_i hf;simp only[hf,if_false];exact e9n h
theorem b2m {c:S9} {d tick:Nat} {f:FuncId} {tys:List TypeId} {ts:List T} {rt:List (Nat×Root)} {e:Eff} (h:(iO E c me d tick f tys ts).run rt=some e):
  ∃ a r,c f a=some r∧∀ c':S9,c' f a=some r→Alike rt (iO E c me d tick f tys ts) (iO E c' me d tick f tys ts) e:=by
 unfold iO at h ⊢
 cases hv:vT E f ts with
 | none=>
  rw[hv] at h
  exact e1i h
 | some v=>
  rw[hv] at h
  simp only at h ⊢
  cases hc:c f v.args with
  | none=>unfold kN at h;rw[hc] at h;simp[Rd.run] at h
  | some r=>
   refine⟨v.args,r,hc,fun c' hc'=>?_⟩
   have e1:kN c' (E.keep me d) tick f v ts=kN c (E.keep me d) tick f v ts:=by unfold kN;rw[hc,hc']
   rw[e1]
   exact⟨h,rfl⟩
theorem a1z {c:S9} {val:Operand→Option T} {tick d:Nat} {ty0:TypeId} {op:Op} {rt:List (Nat×Root)} {e:Eff} (h:(C4 E c me val tick d ty0 op).run rt=some e):
  (∀ c':S9,Alike rt (C4 E c me val tick d ty0 op) (C4 E c' me val tick d ty0 op) e)∨
  ∃ f a r,c f a=some r∧∀ c':S9,c' f a=some r→Alike rt (C4 E c me val tick d ty0 op) (C4 E c' me val tick d ty0 op) e:=by
 cases op
 case call cl=>
  cases F4:cl.callee with
  | value g=>
   right
   simp only[C4,F4] at h ⊢
   obtain⟨tg,h1,h2⟩:=A8 h
   obtain⟨ts,h3,h4⟩:=A8 h2
   split at h4
   ·rename_i f first caps
    split at h4
    ·rename_i U0
     obtain⟨a,r,q1,q2⟩:=b2m h4
     refine⟨f,a,r,q1,fun c' hc'=>Alike.bind h1 (Alike.bind h3 ?_)⟩
     simp only[U0,if_true]
     exact q2 c' hc'
    ·simp[Rd.run] at h4
   ·obtain⟨a,r,q1,q2⟩:=b2m h4
    exact⟨_,a,r,q1,fun c' hc'=>Alike.bind h1 (Alike.bind h3 (q2 c' hc'))⟩
   ·simp[Rd.run] at h4
  | invoke r m=>left;intro c';simp only[C4,F4] at h ⊢;exact⟨h,rfl⟩
  | builtin b=>left;intro c';cases b<;>simp only[C4,F4] at h ⊢<;>exact⟨h,rfl⟩
 case makeFunc fn first caps=>left;intro c';cases fn<;>simp only[C4] at h ⊢<;>exact⟨h,rfl⟩
 all_goals (left;intro c';simp only[C4] at h ⊢;exact⟨h,rfl⟩)
theorem e8i {c c':S9} (hl:Le c c') {val:Operand→Option T} {tick d:Nat} {ty0:TypeId} {op:Op} {rt:List (Nat×Root)} {e:Eff} (h:(C4 E c me val tick d ty0 op).run rt=some e):
  Alike rt (C4 E c me val tick d ty0 op) (C4 E c' me val tick d ty0 op) e:=by
 rcases a1z h with h1 | ⟨f,a,r,h1,h2⟩
 ·exact h1 c'
 ·exact h2 c' (hl f a r h1)
theorem pX {c c':S9} (hl:Le c c') {ops:List Oper} {st st':St} {o:Oper} (h:dI E c me ops st o=some st'):
  dI E c' me ops st o=some st'∧L9 E c' me ops st o=L9 E c me ops st o:=by
 unfold dI gif at h ⊢
 unfold L9
 split at h
 ·rename_i b hw
  cases b with
  | true=>
   rw[if_pos rfl] at h
   split at h
   ·rename_i e he
    obtain⟨h1,h2⟩:=e8i hl he
    simp only[if_true,h1,h2]
    exact⟨h,trivial⟩
   ·simp at h
  | false=>
   rw[if_neg (by simp)] at h
   exact⟨h,rfl⟩
 ·simp at h
theorem Mp {c c':S9} (hl:Le c c') {ops:List Oper}:∀ {l:List Oper} {st st':St},gH E c me ops l st=some st'→gH E c' me ops l st=some st'
 | [],_,_,h=>h
 | o::l,st,st',h=>by
  simp only[gH] at h ⊢
  split at h
  ·rename_i s1 h1
   rw[(pX hl h1).1]
   exact Mp hl h
  ·simp at h
theorem Ab {c c':S9} (hl:Le c c') {ops:List Oper}:∀ {l:List Oper} {ks:List (List Tmp)} {st st':St},eK E c me ops ks l st=some st'→eK E c' me ops ks l st=some st'
 | [],_,_,_,h=>h
 | o::l,ks,st,st',h=>by
  simp only[eK] at h ⊢
  split at h
  ·rename_i s1 h1
   rw[(pX hl h1).1]
   simp only
   split at h
   ·exact Ab hl h
   ·exact Ab hl h
  ·simp at h
theorem Th {c c':S9} (hl:Le c c') {ops:List Oper} {ps:List (Nat×Nat)}:∀ {l:List Oper} {i:Nat} {st:St} {r},I6 E c me ops ps i l st=some r→I6 E c' me ops ps i l st=some r
 | [],_,_,_,h=>h
 | o::l,i,st,r,h=>by
  simp only[I6] at h ⊢
  split at h
  ·rename_i s1 h1
   obtain⟨q1,q2⟩:=pX hl h1
   rw[q1,q2]
   split at h
   ·rename_i F fs h2
    simp only
    rw[Th hl h2]
    exact h
   ·simp at h
  ·simp at h
theorem d1g {c c':S9} (hl:Le c c') {id:Nat} {ops:List Oper} {dr:Bool} {st st':St} (h:gC E c me id ops dr st=some st'):gC E c' me id ops dr st=some st':=by
 unfold gC at h ⊢
 by_cases lG:E.clr me id=true
 ·rw[if_pos lG] at h ⊢;exact h
 rw[if_neg lG] at h ⊢
 split at h
 ·rename_i hd
  rw[if_pos hd]
  split at h
  ·rename_i hp
   rw[if_pos hp]
   split at h
   ·rename_i F fs hF
    rw[Th hl hF]
    exact h
   ·simp at h
  ·rename_i hp
   rw[if_neg hp]
   split at h
   ·rename_i F hF
    rw[Mp hl hF]
    exact h
   ·simp at h
 ·rename_i hd
  rw[if_neg hd]
  split at h
  ·rename_i F hF
   rw[Ab hl hF]
   exact h
  ·simp at h
theorem uL {c c':S9} (hl:Le c c') {lp lp':Code→St→Option (Ex×St)} (A4:∀ k st r,lp k st=some r→lp' k st=some r):
  ∀ {k:Code} {st:St} {r},D3 E c me lp k st=some r→D3 E c' me lp' k st=some r:=by
 intro k
 induction k with
 | seq a b iha ihb=>
  intro st r h
  simp only[D3] at h ⊢
  cases ha:D3 E c me lp a st with
  | none=>rw[ha] at h;simp at h
  | some p=>
   rw[ha] at h
   rw[iha ha]
   obtain⟨x,s1⟩:=p
   cases x with
   | normal=>exact ihb h
   | exit i=>exact h
   | ret=>exact h
 | cond o a b iha ihb=>
  intro st r h
  simp only[D3] at h ⊢
  split at h
  ·rename_i t hv
   split at h
   ·rename_i ht;simp only[ht,if_true];exact iha h
   ·rename_i ht;simp only[if_neg ht];exact ihb h
  ·simp at h
 | block id b ihb=>
  intro st r h
  simp only[D3] at h ⊢
  cases hb:D3 E c me lp b st with
  | none=>rw[hb] at h;simp at h
  | some p=>rw[hb] at h;rw[ihb hb];exact h
 | loop b _=>intro st r h;simp only[D3] at h ⊢;exact A4 _ _ _ h
 | region id ops dr=>
  intro st r h
  simp only[D3] at h ⊢
  split at h
  ·rename_i s1 h1;rw[d1g hl h1];exact h
  ·simp at h
 | skip=>intro st r h;simpa only[D3] using h
 | ret=>intro st r h;simpa only[D3] using h
 | exit id=>intro st r h;simpa only[D3] using h
 | _=>intro st r h;simp[D3] at h
theorem xH {c c':S9} (hl:Le c c'):∀ {k k':Nat},k≤k'→∀ {b:Code} {st:St} {r},B7 E c me k b st=some r→B7 E c' me k' b st=some r
 | 0,_,_,b,st,r,h=>by simp[B7] at h
 | k+1,0,hk,_,_,_,_=>by omega
 | k+1,k'+1,hk,b,st,r,h=>by
  simp only[B7] at h ⊢
  have ih:∀ b st r,B7 E c me k b st=some r→B7 E c' me k' b st=some r:=fun b st r h=>xH hl (by omega) h
  cases hb:D3 E c me (B7 E c me k) b st with
  | none=>rw[hb] at h;simp at h
  | some p=>
   rw[hb] at h
   rw[uL hl ih hb]
   obtain⟨x,s1⟩:=p
   cases x with
   | normal=>exact ih _ _ _ h
   | exit i=>exact h
   | ret=>exact h
theorem a7n {c c':S9} (hl:Le c c') {k k':Nat} (hk:k≤k') {f:FuncId} {fn:Func} {args:List Arg} {r:Res} (h:gZ E c k f fn args=some r):gZ E c' k' f fn args=some r:=by
 unfold gZ at h ⊢
 split at h
 ·simp at h
 ·rename_i b hb
  cases hc:D3 E c f (B7 E c f k) b ⟨max fn.ntmps args.length,bA 0 args,K7 0 args,2⟩ with
  | none=>rw[hc] at h;simp at h
  | some p=>
   rw[hc] at h
   rw[uL hl (fun b st r h=>xH hl hk h) hc]
   exact h
theorem b3s {c c':S9} (hl:Le c c') {k k':Nat} (hk:k≤k') {f:FuncId} {fn:Func} {args:List Arg} {r:Res} (h:dK E c k f fn args=some r):dK E c' k' f fn args=some r:=by
 obtain⟨b,bb,t,v,rest,cs,ro,y,row,x,st,g1,g2,g3,g4,g5,g6,g7,g8⟩:=Hx h
 have h6:=uL (me:=f) hl (fun b st r h=>xH hl hk h) g6
 unfold dK at h ⊢
 rw[g1] at h ⊢
 simp only[g2] at h ⊢
 subst g3
 simp only at h ⊢
 split
 ·rename_i hc
  rw[if_pos hc] at h
  simp only[g5] at h ⊢
  rw[h6]
  rcases g7 with rfl | rfl<;>exact g8
 ·rename_i hc
  rw[if_neg hc] at h
  simp at h
theorem No:∀ (n:Nat),Le (L0 E n) (L0 E (n+1))
 | 0,f,a,r,h=>by simp[L0] at h
 | n+1,f,a,r,h=>by
  rw[L0] at h ⊢
  split at h
  ·exact h
  ·split at h
   ·rename_i hg
    split at h
    ·simp at h
    ·rename_i fn hf
     rw[if_pos hg]
     split at h
     ·rename_i hm;rw[if_pos hm];exact b3s (No n) (Nat.le_succ n) h
     ·rename_i hm;rw[if_neg hm];exact a7n (No n) (Nat.le_succ n) h
   ·simp at h
theorem cD {n m:Nat} (h:n≤m):Le (L0 E n) (L0 E m):=by
 induction h with
 | refl=>exact Le.refl _
 | step _ ih=>exact ih.trans (No _)
end mono
open Classical in
noncomputable def orc (E:Env):S9:=fun f a=>if h:∃ r n,L0 E n f a=some r then some h.choose else none
section orc
variable {E:Env} {me:FuncId}
theorem wN {f:FuncId} {a:List Arg} {r:Res}:orc E f a=some r↔∃ n,L0 E n f a=some r:=by
 constructor
 ·intro h
  unfold orc at h
  split at h
  ·rename_i hx
   simp only[Option.some.injEq] at h
   rw[←h]
   exact hx.choose_spec
  ·simp at h
 ·rintro⟨n,hn⟩
  have hx:∃ r n,L0 E n f a=some r:=⟨r,n,hn⟩
  unfold orc
  rw[dif_pos hx]
  obtain⟨m,hm⟩:=hx.choose_spec
  have h1:=cD (Nat.le_max_left n m) f a _ hn
  have h2:=cD (Nat.le_max_right n m) f a _ hm
  rw[h1] at h2
  exact h2.symm
theorem d6f (n:Nat):Le (L0 E n) (orc E):=fun _ _ _ h=>wN.2 ⟨n,h⟩
theorem Pu {ops:List Oper} {st st':St} {o:Oper} (h:dI E (orc E) me ops st o=some st'):∃ n,dI E (L0 E n) me ops st o=some st':=by
 unfold dI gif at h ⊢
 split at h
 ·rename_i b hw
  cases b with
  | true=>
   rw[if_pos rfl] at h
   split at h
   ·rename_i e he
    rcases a1z he with h1 | ⟨f,a,r,h1,h2⟩
    ·exact⟨0,by simp only[if_true,(h1 (L0 E 0)).1];exact h⟩
    ·obtain⟨n,hn⟩:=wN.1 h1
     exact⟨n,by simp only[if_true,(h2 (L0 E n) hn).1];exact h⟩
   ·simp at h
  | false=>
   rw[if_neg (by simp)] at h
   exact⟨0,h⟩
 ·simp at h
theorem c9n {ops:List Oper}:∀ {l:List Oper} {st st':St},gH E (orc E) me ops l st=some st'→∃ n,gH E (L0 E n) me ops l st=some st'
 | [],_,_,h=>⟨0,h⟩
 | o::l,st,st',h=>by
  simp only[gH] at h
  split at h
  ·rename_i s1 h1
   obtain⟨n,hn⟩:=Pu h1
   obtain⟨m,hm⟩:=c9n h
   refine⟨max n m,?_⟩
   simp only[gH]
   rw[(pX (cD (Nat.le_max_left n m)) hn).1]
   exact Mp (cD (Nat.le_max_right n m)) hm
  ·simp at h
theorem Rj {ops:List Oper}:∀ {l:List Oper} {ks:List (List Tmp)} {st st':St},eK E (orc E) me ops ks l st=some st'→∃ n,eK E (L0 E n) me ops ks l st=some st'
 | [],_,_,_,h=>⟨0,h⟩
 | o::l,ks,st,st',h=>by
  simp only[eK] at h
  split at h
  ·rename_i s1 h1
   obtain⟨n,hn⟩:=Pu h1
   cases ks with
   | nil=>
    obtain⟨m,hm⟩:=Rj h
    refine⟨max n m,?_⟩
    simp only[eK]
    rw[(pX (cD (Nat.le_max_left n m)) hn).1]
    exact Ab (cD (Nat.le_max_right n m)) hm
   | cons k ks=>
    obtain⟨m,hm⟩:=Rj h
    refine⟨max n m,?_⟩
    simp only[eK]
    rw[(pX (cD (Nat.le_max_left n m)) hn).1]
    exact Ab (cD (Nat.le_max_right n m)) hm
  ·simp at h
theorem a0v {ops:List Oper} {ps:List (Nat×Nat)}:∀ {l:List Oper} {i:Nat} {st:St} {r},I6 E (orc E) me ops ps i l st=some r→∃ n,I6 E (L0 E n) me ops ps i l st=some r
 | [],_,_,_,h=>⟨0,h⟩
 | o::l,i,st,r,h=>by
  simp only[I6] at h
  split at h
  ·rename_i s1 h1
   split at h
   ·rename_i F fs h2
    obtain⟨n,hn⟩:=Pu h1
    obtain⟨m,hm⟩:=a0v h2
    refine⟨max n m,?_⟩
    simp only[I6]
    obtain⟨q1,q2⟩:=pX (cD (Nat.le_max_left n m)) hn
    have q3:=(pX (d6f (max n m)) q1).2
    rw[q1]
    simp only
    rw[Th (cD (Nat.le_max_right n m)) hm]
    simp only
    rw[←q3]
    exact h
   ·simp at h
  ·simp at h
theorem e6k {id:Nat} {ops:List Oper} {dr:Bool} {st st':St} (h:gC E (orc E) me id ops dr st=some st'):∃ n,gC E (L0 E n) me id ops dr st=some st':=by
 unfold gC at h ⊢
 by_cases lG:E.clr me id=true
 ·exact⟨0,by rw[if_pos lG] at h ⊢;exact h⟩
 simp only[if_neg lG] at h ⊢
 split at h
 ·rename_i hd
  split at h
  ·rename_i hp
   split at h
   ·rename_i F fs hF
    obtain⟨n,hn⟩:=a0v hF
    exact⟨n,by rw[if_pos hd,if_pos hp,hn];exact h⟩
   ·simp at h
  ·rename_i hp
   split at h
   ·rename_i F hF
    obtain⟨n,hn⟩:=c9n hF
    exact⟨n,by rw[if_pos hd,if_neg hp,hn];exact h⟩
   ·simp at h
 ·rename_i hd
  split at h
  ·rename_i F hF
   obtain⟨n,hn⟩:=Rj hF
   exact⟨n,by rw[if_neg hd,hn];exact h⟩
  ·simp at h
theorem Ni {lp:Code→St→Option (Ex×St)} {lpn:Nat→Code→St→Option (Ex×St)} (hc:∀ k st r,lp k st=some r→∃ n,lpn n k st=some r) (hm:∀ n m,n≤m→∀ k st r,lpn n k st=some r→lpn m k st=some r):
  ∀ {k:Code} {st:St} {r},D3 E (orc E) me lp k st=some r→∃ n,D3 E (L0 E n) me (lpn n) k st=some r:=by
 intro k
 induction k with
 | seq a b iha ihb=>
  intro st r h
  simp only[D3] at h
  cases ha:D3 E (orc E) me lp a st with
  | none=>rw[ha] at h;simp at h
  | some p=>
   rw[ha] at h
   obtain⟨n,hn⟩:=iha ha
   obtain⟨x,s1⟩:=p
   cases x with
   | normal=>
    obtain⟨m,qB⟩:=ihb h
    refine⟨max n m,?_⟩
    simp only[D3]
    rw[uL (cD (Nat.le_max_left n m)) (hm _ _ (Nat.le_max_left n m)) hn]
    exact uL (cD (Nat.le_max_right n m)) (hm _ _ (Nat.le_max_right n m)) qB
   | exit i=>exact⟨n,by simp only[D3];rw[hn];exact h⟩
   | ret=>exact⟨n,by simp only[D3];rw[hn];exact h⟩
 | cond o a b iha ihb=>
  intro st r h
  simp only[D3] at h ⊢
  split at h
  ·rename_i t hv
   split at h
   ·rename_i ht
    obtain⟨n,hn⟩:=iha h
    exact⟨n,by simp only[ht,if_true];exact hn⟩
   ·rename_i ht
    obtain⟨n,hn⟩:=ihb h
    exact⟨n,by simp only[if_neg ht];exact hn⟩
  ·simp at h
 | block id b ihb=>
  intro st r h
  simp only[D3] at h ⊢
  cases hb:D3 E (orc E) me lp b st with
  | none=>rw[hb] at h;simp at h
  | some p=>
   rw[hb] at h
   obtain⟨n,hn⟩:=ihb hb
   exact⟨n,by rw[hn];exact h⟩
 | loop b _=>
  intro st r h
  simp only[D3] at h ⊢
  exact hc _ _ _ h
 | region id ops dr=>
  intro st r h
  simp only[D3] at h ⊢
  split at h
  ·rename_i s1 h1
   obtain⟨n,hn⟩:=e6k h1
   exact⟨n,by rw[hn];exact h⟩
  ·simp at h
 | skip=>intro st r h;exact⟨0,by simpa only[D3] using h⟩
 | ret=>intro st r h;exact⟨0,by simpa only[D3] using h⟩
 | exit id=>intro st r h;exact⟨0,by simpa only[D3] using h⟩
 | _=>intro st r h;simp[D3] at h
theorem Hl:∀ (k:Nat) {b:Code} {st:St} {r},B7 E (orc E) me k b st=some r→∃ n,B7 E (L0 E n) me k b st=some r
 | 0,b,st,r,h=>by simp[B7] at h
 | k+1,b,st,r,h=>by
  simp only[B7] at h
  have hc:∀ b st r,B7 E (orc E) me k b st=some r→∃ n,B7 E (L0 E n) me k b st=some r:=fun b st r h=>Hl k h
  have hm:∀ n m,n≤m→∀ b st r,B7 E (L0 E n) me k b st=some r→B7 E (L0 E m) me k b st=some r:=fun n m zF b st r h=>xH (cD zF) (Nat.le_refl _) h
  cases hb:D3 E (orc E) me (B7 E (orc E) me k) b st with
  | none=>rw[hb] at h;simp at h
  | some p=>
   rw[hb] at h
   obtain⟨n,hn⟩:=Ni (lpn:=fun n=>B7 E (L0 E n) me k) hc hm hb
   obtain⟨x,s1⟩:=p
   cases x with
   | normal=>
    obtain⟨m,qB⟩:=Hl k h
    refine⟨max n m,?_⟩
    simp only[B7]
    rw[uL (cD (Nat.le_max_left n m)) (hm _ _ (Nat.le_max_left n m)) hn]
    exact hm _ _ (Nat.le_max_right n m) _ _ _ qB
   | exit i=>exact⟨n,by simp only[B7];rw[hn];exact h⟩
   | ret=>exact⟨n,by simp only[B7];rw[hn];exact h⟩
theorem A9 {f:FuncId} {fn:Func} {args:List Arg} {r:Res} (k:Nat) (hx:E.ext f=none) (hg:E.good f=true) (hm:wE (E.mode f)=false) (hf:E.P.funcs[f]?=some fn) (h:gZ E (orc E) k f fn args=some r):orc E f args=some r:=by
 have:∃ n,gZ E (L0 E n) k f fn args=some r:=by
  unfold gZ at h ⊢
  split at h
  ·simp at h
  ·rename_i b hb
   cases hc:D3 E (orc E) f (B7 E (orc E) f k) b ⟨max fn.ntmps args.length,bA 0 args,K7 0 args,2⟩ with
   | none=>rw[hc] at h;simp at h
   | some p=>
    rw[hc] at h
    obtain⟨n,hn⟩:=Ni (lpn:=fun n=>B7 E (L0 E n) f k) (fun b st r h=>Hl k h) (fun n m zF b st r h=>xH (cD zF) (Nat.le_refl _) h) hc
    refine⟨n,?_⟩
    rw[hn]
    exact h
 obtain⟨n,hn⟩:=this
 refine wN.2 ⟨max n k+1,?_⟩
 simp only[L0,hx,hg,hf,hm,if_true,Bool.false_eq_true,if_false]
 exact a7n (cD (Nat.le_max_left n k)) (Nat.le_max_right n k) hn
theorem Qx {f:FuncId} {fn:Func} {args:List Arg} {r:Res} (k:Nat) (hx:E.ext f=none) (hg:E.good f=true) (hm:wE (E.mode f)=true) (hf:E.P.funcs[f]?=some fn) (h:dK E (orc E) k f fn args=some r):orc E f args=some r:=by
 obtain⟨b,bb,t,v,rest,cs,ro,y,row,x,st,g1,g2,g3,g4,g5,g6,g7,g8⟩:=Hx h
 obtain⟨n,hn⟩:=Ni (lpn:=fun n=>B7 E (L0 E n) f k) (fun b st r h=>Hl k h) (fun n m zF b st r h=>xH (cD zF) (Nat.le_refl _) h) g6
 have hB:dK E (L0 E n) k f fn args=some r:=by
  unfold dK at h ⊢
  rw[g1] at h ⊢
  simp only[g2] at h ⊢
  subst g3
  simp only at h ⊢
  split
  ·rename_i hc
   rw[if_pos hc] at h
   simp only[g5] at h ⊢
   rw[hn]
   rcases g7 with rfl | rfl<;>exact g8
  ·rename_i hc
   rw[if_neg hc] at h
   simp at h
 refine wN.2 ⟨max n k+1,?_⟩
 simp only[L0,hx,hg,hf,hm,if_true]
 exact b3s (cD (Nat.le_max_left n k)) (Nat.le_max_right n k) hB
theorem Ds {f:FuncId} {g:List Arg→Option Res} {args:List Arg} {r:Res} (hx:E.ext f=some g) (h:g args=some r):orc E f args=some r:=
 wN.2 ⟨1,by simp only[L0,hx];exact h⟩
theorem Gn (h:Able E) {f:FuncId} {args:List Arg} {r:Res} (ho:orc E f args=some r):Sound E f args r∧Enters E f:=by
 obtain⟨n,hn⟩:=wN.1 ho
 exact Dn h n f args r hn
end orc
def Vb:Value→Value→Bool
 | .int k a,.int l b=>decide (k=l∧a=b)
 | .bool a,.bool b=>a==b
 | .string a,.string b=>a.data.toList==b.data.toList
 | .pointer none,.pointer none=>true
 | .nilFunc,.nilFunc=>true
 | .nilIface,.nilIface=>true
 | _,_=>false
theorem f1w {a b:Value} (h:Vb a b=true):a=b:=by
 unfold Vb at h
 split at h
 ·have:=of_decide_eq_true h
  obtain⟨h1,h2⟩:=this
  subst h1;subst h2;rfl
 ·simp only[beq_iff_eq] at h;subst h;rfl
 ·rename_i a b
  cases a with
  | mk a=>cases b with
   | mk b=>
    have:=eq_of_beq h
    simp only at this
    rw[Array.ext' this]
 ·rfl
 ·rfl
 ·rfl
 ·simp at h
def c2h (t:T) (u:Value):Bool:=
 match t with
 | .v x=>Vb x u&&oneVal u
 | .own _ []=>(match u with | .slice none 0 0=>true | _=>false)
 | _=>false
def wC:List T→List Value→Bool
 | [],[]=>true
 | t::ts,u::us=>c2h t u&&wC ts us
 | _,_=>false
theorem Hd {sz hp I}:∀ {ts:List T} {us:List Value},wC ts us=true→okL sz hp I ts us []∧(∀ u,u∈us→oneVal u=true)∧ts.length=us.length
 | [],[],_=>⟨⟨rfl,rfl⟩,fun u hu=>by simp at hu,rfl⟩
 | t::ts,[],h=>by simp[wC] at h
 | [],u::us,h=>by simp[wC] at h
 | t::ts,u::us,h=>by
  simp only[wC,Bool.and_eq_true] at h
  obtain⟨h1,h2,h3⟩:=Hd (sz:=sz) (hp:=hp) (I:=I) h.2
  have h4:okV sz hp I t u []∧oneVal u=true:=by
   have hz:=h.1
   unfold c2h at hz
   split at hz
   ·simp only[Bool.and_eq_true] at hz
    have:=f1w hz.1
    subst this
    exact⟨⟨rfl,rfl⟩,hz.2⟩
   ·split at hz
    ·exact⟨.inl ⟨rfl,rfl,none,rfl⟩,rfl⟩
    ·simp at hz
   ·simp at hz
  refine⟨⟨u,us,[],[],rfl,rfl,h4.1,h1⟩,fun v hv=>?_,by simp[h3]⟩
  rcases List.mem_cons.1 hv with rfl | hv
  ·exact h4.2
  ·exact h2 v hv
def oW (P:Program):List Field→List (Nat×Nat)→List TypeId→Bool
 | [],[],[]=>true
 | f::fs,(o,s)::is,t::ts=>f.offset==o&&f.type==t&&(match P.info? f.type with | some inf=>inf.size==s | none=>false)&&oW P fs is ts
 | _,_,_=>false
def Qj (P:Program) (known:TypeId→Bool) (t:TypeId) (i:TInfo):Bool:=
 (match P.info? t with
  | some inf=>inf.size==i.size&&inf.bytes==i.bytes&&(match inf.zero with | some z=>z.cells.size==i.size&&wC i.zero z.cells.toList | none=>false)
  | none=>false) &&
 (match P.underlying t with
  | some desc=>i.agg==(match desc with | .struct _ | .array _ _=>true | _=>false)&&i.int==(match desc with | .int _=>true | _=>false) &&
   (match i.elem with | some e=>(match desc with | .slice e'=>e==e'&&known e | _=>false) | none=>true) &&
   (match desc with | .struct fs=>oW P fs.toList i.fields i.ftys | _=>i.fields.isEmpty&&i.ftys.isEmpty)
  | none=>false)
theorem Gj {P:Program}:∀ {fs:List Field} {is:List (Nat×Nat)} {ts:List TypeId},oW P fs is ts=true→
  (∀ (k off s:Nat),is[k]?=some (off,s)→∃ (f:Field) (inf:TypeInfo),fs[k]?=some f∧f.offset=off∧P.info? f.type=some inf∧inf.size=s)∧
  (∀ (k ft:Nat),ts[k]?=some ft→∀ (f:Field),fs[k]?=some f→f.type=ft)∧
  (∀ w,(fs.mapM fun f=>do pure (f.offset,←sizeOf f.type):Sem (List (Nat×Nat))).run P w=.ok is w)
 | [],[],[],_=>⟨fun k off s h=>by simp at h,fun k ft h=>by simp at h,fun w=>by simp⟩
 | [],[],_::_,h=>by simp[oW] at h
 | [],_::_,_,h=>by simp[oW] at h
 | _::_,[],_,h=>by simp[oW] at h
 | _::_,_::_,[],h=>by simp[oW] at h
 | f::fs,(o,s)::is,t::ts,h=>by
  simp only[oW,Bool.and_eq_true,beq_iff_eq] at h
  obtain⟨⟨⟨h1,h2⟩,h3⟩,h4⟩:=h
  obtain⟨g1,g2,g3⟩:=Gj h4
  split at h3
  ·rename_i inf Hy
   simp only[beq_iff_eq] at h3
   refine⟨fun k off s' hk=>?_,fun k ft hk f' hf'=>?_,fun w=>?_⟩
   ·cases k with
    | zero=>
     simp only[List.getElem?_cons_zero,Option.some.injEq,Prod.mk.injEq] at hk
     obtain⟨rfl,rfl⟩:=hk
     exact⟨f,inf,by simp,h1,Hy,h3⟩
    | succ k=>
     simp only[List.getElem?_cons_succ] at hk
     obtain⟨f',inf',q⟩:=g1 k off s' hk
     exact⟨f',inf',by simpa using q⟩
   ·cases k with
    | zero=>
     simp only[List.getElem?_cons_zero,Option.some.injEq] at hk hf'
     subst hk;subst hf';exact h2
    | succ k=>
     simp only[List.getElem?_cons_succ] at hk hf'
     exact g2 k ft hk f' hf'
   ·have hs:(sizeOf f.type).run P w=.ok s w:=by simp[sizeOf,jA Hy,h3]
    have hg:=g3 w
    simp only[List.mapM_cons,Sem.run_bind,hs,Result.andThen_ok,Sem.run_pure,hg,h1]
  ·simp at h3
theorem e3o {E:Env} {t:TypeId} {i:TInfo} {known:TypeId→Bool} (hk:∀ e,known e=true→∃ ie,E.ti e=some ie) (h:Qj E.P known t i=true):TOk E t i:=by
 unfold Qj at h
 simp only[Bool.and_eq_true] at h
 obtain⟨h1,h2⟩:=h
 split at h1
 ·rename_i inf Hy
  split at h2
  ·rename_i desc hd
   simp only[Bool.and_eq_true,beq_iff_eq] at h1 h2
   obtain⟨⟨a1,a2⟩,a3⟩:=h1
   obtain⟨⟨⟨b1,b2⟩,b3⟩,b4⟩:=h2
   have fields:i.fields≠[]∨i.ftys≠[]→∃ fs,desc=.struct fs∧oW E.P fs.toList i.fields i.ftys=true:=fun R5=>by
    split at b4
    ·rename_i fs
     exact⟨fs,rfl,b4⟩
    ·simp only[Bool.and_eq_true,List.isEmpty_iff] at b4
     rcases R5 with h | h
     ·exact absurd b4.1 h
     ·exact absurd b4.2 h
   split at a3
   ·rename_i zv hz
    simp only[Bool.and_eq_true,beq_iff_eq] at a3
    refine⟨⟨inf,zv,Hy,a1,a2,hz,a3.1,?_,fun h I=>(Hd a3.2).1,(Hd (sz:=szOf E) (hp:=#[]) (I:=fun _=>True) a3.2).2.1⟩,⟨desc,hd,b1⟩,⟨desc,hd,b2⟩,fun e he=>?_,fun e he=>?_,fun k off s hf=>?_,fun R5=>?_,fun k ft Ak fs f oR hf=>?_⟩
    ·have:=(Hd (sz:=szOf E) (hp:=#[]) (I:=fun _=>True) a3.2).2.2
     rw[this,Array.length_toList];exact a3.1
    ·rw[he] at b3
     simp only at b3
     split at b3
     ·rename_i e'
      simp only[Bool.and_eq_true,beq_iff_eq] at b3
      rw[hd,b3.1]
     ·simp at b3
    ·rw[he] at b3
     simp only at b3
     split at b3
     ·simp only[Bool.and_eq_true] at b3
      exact hk e b3.2
     ·simp at b3
    ·obtain⟨fs,rfl,zU⟩:=fields (.inl (fun h=>by rw[h] at hf;simp at hf))
     obtain⟨f,inf',q1,q2,q3,q4⟩:=(Gj zU).1 k off s hf
     exact⟨fs,f,inf',hd,by simpa using q1,q2,q3,q4⟩
    ·obtain⟨fs,rfl,zU⟩:=fields (.inl R5)
     refine⟨fs,hd,fun w=>?_⟩
     have:=(Gj zU).2.2 w
     rw[Array.mapM_eq_mapM_toList]
     show ((fs.toList.mapM fun f=>do pure (f.offset,←sizeOf f.type):Sem (List (Nat×Nat))) >>= fun l=>pure l.toArray).run E.P w=_
     rw[Sem.run_bind,this]
     rfl
    ·obtain⟨fs',rfl,zU⟩:=fields (.inr (fun h=>by rw[h] at Ak;simp at Ak))
     rw[hd] at oR
     simp only[Option.some.injEq,TypeDesc.struct.injEq] at oR
     subst oR
     exact (Gj zU).2.1 k ft Ak f (by simpa using hf)
   ·simp at a3
  ·simp at h2
 ·simp at h1
def f2e (P:Program) (tab:List (Nat×TInfo)):Bool:=tab.all fun p=>Qj P (fun e=>(lk tab e).isSome) p.1 p.2
theorem e2c {E:Env} {tab:List (Nat×TInfo)} (ht:E.ti=lk tab) (h:f2e E.P tab=true):TiOk E:=by
 intro t i hi
 rw[ht] at hi
 have:=List.all_eq_true.1 h (t,i) (xS hi)
 exact e3o (fun e he=>by rw[ht];exact Option.isSome_iff_exists.1 he) this
def e0w (E:Env) (fs:List Nat):Bool:=fs.all fun f=>goodFn E f
def oB:Code→List Code
 | .loop c=>c::oB c
 | .seq a b=>oB a++oB b
 | .cond _ a b=>oB a++oB b
 | .block _ c=>oB c
 | _=>[]
def C1 (f:Func) (n:Nat):Code:=
 match f.body with
 | some c=>((oB c)[n]?).getD .skip
 | none=>.skip
section
variable {E:Env} {call:FuncId→List Arg→Option Res} {me:FuncId}
theorem D6 {k:Nat} {c:Code} {st Q3:St} {r:Option (Ex×St)} (h:D3 E call me (B7 E call me k) c st=some (.normal,Q3)) (h2:B7 E call me k c Q3=r):
  B7 E call me (k+1) c st=r:=by simp only[B7,h,h2]
theorem G3 {k:Nat} {c:Code} {st Q3:St} {x:Ex} (h:D3 E call me (B7 E call me k) c st=some (x,Q3)) (hx:x≠.normal):
  B7 E call me (k+1) c st=some (x,Q3):=by
 simp only[B7,h]
 cases x with
 | normal=>exact absurd rfl hx
 | _=>rfl
end
theorem F6 {α:Type} {all rest:List α} {i:Nat} {c:α} (h:all.drop i=c::rest):∃ h:i<all.length,all[i]=c∧all.drop (i+1)=rest:=by
 have hi:i<all.length:=by
  rcases Nat.lt_or_ge i all.length with h' | h'
  ·exact h'
  ·rw[List.drop_eq_nil_of_le h'] at h;simp at h
 refine⟨hi,?_,?_⟩
 ·have:=List.getElem?_drop (xs:=all) (i:=i) (j:=0)
  rw[h] at this
  simp[hi] at this
  exact this.symm
 ·rw[←List.tail_drop,h];rfl
theorem B6 {n:Int} (h1:-9223372036854775808≤n) (h2:n<9223372036854775808):IntKind.i64.wrap n=n:=by
 simp[IntKind.wrap,IntKind.bits,IntKind.signed]
 omega
theorem iH {α:Type} {f g:α→List T} (h:∀ a,V2 (f a)=g a):∀ (l:List α),Q9 (l.map f)=l.map g
 | []=>rfl
 | a::l=>by simp only[List.map_cons,Q9,h a,iH h l]
section ite
variable {c:Prop} [Decidable c]
theorem b9x (x y:Value):(if c then T.v x else T.v y)=T.v (if c then x else y):=by split<;>rfl
theorem b5h (k:IntKind) (a b:Int):(if c then Value.int k a else Value.int k b)=Value.int k (if c then a else b):=by split<;>rfl
theorem Zt {α:Type} (a b:α):(if c then some a else some b)=some (if c then a else b):=by split<;>rfl
end ite
def A7 (a b:Bool):Bool:=a||b
def A6 (a b:Bool):Bool:=a&&b
def A2 (a:Bool):Bool:=!a
section gif
variable {α:Type}
theorem b0u (b:Bool):A7 true b=true:=rfl
theorem c4p (b:Bool):A7 false b=b:=by cases b<;>rfl
theorem rJ (b:Bool):A6 true b=b:=by cases b<;>rfl
theorem yG (b:Bool):A6 false b=false:=rfl
theorem b2j (b:Bool):A7 b true=true:=by cases b<;>rfl
theorem Ay (b:Bool):A7 b false=b:=by cases b<;>rfl
theorem b5e (b:Bool):A6 b true=b:=by cases b<;>rfl
theorem a6p (b:Bool):A6 b false=false:=by cases b<;>rfl
theorem Ca:A2 true=false:=rfl
theorem Dv:A2 false=true:=rfl
theorem c1h (b:Bool):A2 (A2 b)=b:=by cases b<;>rfl
theorem c8x (x y:α):gif true x y=x:=rfl
theorem c4a (x y:α):gif false x y=y:=rfl
theorem b5m (b:Bool) (x:α):gif b x x=x:=by cases b<;>rfl
theorem a2j (p q:Bool) (x y:α):gif (A6 p q) x y=gif p (gif q x y) y:=by cases p<;>cases q<;>rfl
theorem b8r (b:Bool) (x y:α):gif b (some x) (some y)=some (gif b x y):=by cases b<;>rfl
theorem c5i (b:Bool) (v v':T) (r r':Option Root) (s s':List CSet):gif b (⟨v,r,s⟩:Eff) ⟨v',r',s'⟩=⟨gif b v v',gif b r r',gif b s s'⟩:=by cases b<;>rfl
theorem b4h (b:Bool) (x y:Value):gif b (T.v x) (T.v y)=T.v (gif b x y):=by cases b<;>rfl
theorem O3 {b b':Bool} {x x' y y':α} (h:b=b') (h1:b'=true→x=x') (h2:b'=false→y=y'):gif b x y=gif b' x' y':=by
 subst h
 cases b
 ·exact h2 rfl
 ·exact h1 rfl
def Rf (q w:Bool):Bool:=q==w
theorem b5f (q:Bool):Rf q true=q:=by cases q<;>rfl
theorem a7m (q:Bool):Rf q false=A2 q:=by cases q<;>rfl
theorem b0p (w b:Bool):vC w (.bool b)=some (Rf b w):=rfl
theorem a8c (w:Bool):vC w undef=some false:=rfl
theorem a0w (w p:Bool) (x:Value):vC w (gif p x undef)=gif p (vC w x) (some false):=by cases p<;>rfl
theorem c1e (p q:Bool):gif p q false=A6 p q:=by cases p<;>cases q<;>rfl
def iY {α:Type} (b:Bool) (x y:α):α:=if b=true then x else y
theorem b8z (x y:α):iY true x y=x:=rfl
theorem a0k (x y:α):iY false x y=y:=rfl
theorem a6r (t:Bool) (x y:Value):Mr t (T.v x) (T.v y)=T.v (iY t x y):=by cases t<;>rfl
theorem a9a (p q:Bool):iY p (Value.bool true) (gif (A2 p) (Value.bool q) undef)=Value.bool (A7 p q):=by cases p<;>rfl
theorem c8k (p q:Bool):iY (A2 p) (Value.bool true) (gif p (Value.bool q) undef)=Value.bool (A7 (A2 p) q):=by cases p<;>rfl
theorem c6y (p r q:Bool):iY (A2 (A6 p r)) (Value.bool true) (gif p (gif r (Value.bool q) undef) undef)=Value.bool (A7 (A2 (A6 p r)) q):=by cases p<;>cases r<;>rfl
theorem a1x (p q:Bool):iY p (gif p (Value.bool q) undef) (Value.bool false)=Value.bool (A6 p q):=by cases p<;>rfl
theorem a9b (p r q:Bool):iY (A6 p r) (gif p (gif r (Value.bool q) undef) undef) (Value.bool false)=Value.bool (A6 (A6 p r) q):=by cases p<;>cases r<;>rfl
theorem a2f (p r s q:Bool):iY (A6 (A6 p r) s) (gif p (gif r (gif s (Value.bool q) undef) undef) undef) (Value.bool false)=Value.bool (A6 (A6 (A6 p r) s) q):=by cases p<;>cases r<;>cases s<;>rfl
theorem b6j (p r s t q:Bool):iY (A6 (A6 (A6 p r) s) t) (gif p (gif r (gif s (gif t (Value.bool q) undef) undef) undef) undef) (Value.bool false)=Value.bool (A6 (A6 (A6 (A6 p r) s) t) q):=by cases p<;>cases r<;>cases s<;>cases t<;>rfl
theorem a1e (p q:Bool):iY p (Value.bool true) (Value.bool q)=Value.bool (A7 p q):=by cases p<;>rfl
theorem a3i (p q:Bool):iY p (Value.bool q) (Value.bool false)=Value.bool (A6 p q):=by cases p<;>rfl
end gif
section code
variable (E:Env) (call:FuncId→List Arg→Option Res) (me:FuncId) (lp:Code→St→Option (Ex×St))
def kR (b:Code) (r:Option (Ex×St)):Option (Ex×St):=
 match r with
 | some (.normal,st)=>D3 E call me lp b st
 | r=>r
def kW (id:Nat) (r:Option (Ex×St)):Option (Ex×St):=
 match r with
 | some (.exit i,st)=>some (if i=id then .normal else .exit i,st)
 | r=>r
def oT (f:FuncId) (fn:Func) (args:List Arg) (r:Option (Ex×St)):Option Res:=
 match r with
 | some (.normal,st)=>iU E f fn args st
 | some (.ret,st)=>iU E f fn args st
 | _=>none
theorem b0f (a b:Code) (st:St):D3 E call me lp (.seq a b) st=kR E call me lp b (D3 E call me lp a st):=rfl
theorem a9o (id:Nat) (c:Code) (st:St):D3 E call me lp (.block id c) st=kW id (D3 E call me lp c st):=rfl
theorem a9p (st:St):D3 E call me lp .skip st=some (.normal,st):=rfl
theorem c4v (st:St):D3 E call me lp .ret st=some (.ret,st):=rfl
theorem Wl (id:Nat) (st:St):D3 E call me lp (.exit id) st=some (.exit id,st):=rfl
theorem a4b (c:Code) (st:St):D3 E call me lp (.loop c) st=lp c st:=rfl
theorem c5d (c:Operand) (a b:Code) (st:St):D3 E call me lp (.cond c a b) st=match St.val st.fr c with
  | some (.v (.bool t))=>if t=true then D3 E call me lp a st else D3 E call me lp b st
  | _=>none:=rfl
theorem a6w (id:Nat) (ops:Array Oper) (dr:Bool) (st:St):D3 E call me lp (.region id ops dr) st=match gC E call me id ops.toList dr st with | some st=>some (.normal,st) | none=>none:=rfl
theorem a3y (b:Code) (st:St):kR E call me lp b (some (.normal,st))=D3 E call me lp b st:=rfl
theorem c2o (b:Code) (st:St):kR E call me lp b (some (.ret,st))=some (.ret,st):=rfl
theorem a3q (b:Code) (i:Nat) (st:St):kR E call me lp b (some (.exit i,st))=some (.exit i,st):=rfl
theorem Wp (b:Code):kR E call me lp b none=none:=rfl
theorem a8m (id:Nat) (st:St):kW id (some (.normal,st))=some (.normal,st):=rfl
theorem c2c (id:Nat) (st:St):kW id (some (.ret,st))=some (.ret,st):=rfl
theorem c7r (id i:Nat) (st:St):kW id (some (.exit i,st))=some (if i=id then .normal else .exit i,st):=rfl
theorem b0j (id:Nat):kW id none=none:=rfl
theorem c4q (f:FuncId) (fn:Func) (args:List Arg) (st:St):oT E f fn args (some (.normal,st))=iU E f fn args st:=rfl
theorem b3g (f:FuncId) (fn:Func) (args:List Arg) (st:St):oT E f fn args (some (.ret,st))=iU E f fn args st:=rfl
theorem Zw (n:Nat) (f:FuncId) (fn:Func) (args:List Arg):gZ E call n f fn args=match fn.body with
  | none=>none
  | some c=>oT E f fn args (D3 E call f (B7 E call f n) c ⟨max fn.ntmps args.length,bA 0 args,K7 0 args,2⟩):=rfl
variable {c:Prop} [Decidable c]
theorem Zj (b:Code) (x y:Option (Ex×St)):kR E call me lp b (if c then x else y)=if c then kR E call me lp b x else kR E call me lp b y:=by split<;>rfl
theorem a3h (b:Code) (x y:Ex×St):kR E call me lp b (some (if c then x else y))=if c then kR E call me lp b (some x) else kR E call me lp b (some y):=by split<;>rfl
theorem a4g (id:Nat) (x y:Option (Ex×St)):kW id (if c then x else y)=if c then kW id x else kW id y:=by split<;>rfl
theorem Zv (id:Nat) (x y:Ex×St):kW id (some (if c then x else y))=if c then kW id (some x) else kW id (some y):=by split<;>rfl
theorem b7x (f:FuncId) (fn:Func) (args:List Arg) (x y:Option (Ex×St)):oT E f fn args (if c then x else y)=if c then oT E f fn args x else oT E f fn args y:=by split<;>rfl
theorem b0t (f:FuncId) (fn:Func) (args:List Arg) (x y:Ex×St):oT E f fn args (some (if c then x else y))=if c then oT E f fn args (some x) else oT E f fn args (some y):=by split<;>rfl
def mX (k:Nat) (b:Code) (r:Option (Ex×St)):Option (Ex×St):=
 match r with
 | some (.normal,st)=>B7 E call me k b st
 | r=>r
theorem D5 (k:Nat) (b:Code) (st:St):B7 E call me (k+1) b st=mX E call me k b (D3 E call me (B7 E call me k) b st):=rfl
theorem a3n (k:Nat) (b:Code) (st:St):mX E call me k b (some (.normal,st))=B7 E call me k b st:=rfl
theorem a1i (k:Nat) (b:Code) (st:St):mX E call me k b (some (.ret,st))=some (.ret,st):=rfl
theorem Ys (k:Nat) (b:Code) (i:Nat) (st:St):mX E call me k b (some (.exit i,st))=some (.exit i,st):=rfl
theorem a8a (k:Nat) (b:Code) (x y:Option (Ex×St)):mX E call me k b (if c then x else y)=if c then mX E call me k b x else mX E call me k b y:=by split<;>rfl
theorem b5a (k:Nat) (b:Code) (x y:Ex×St):mX E call me k b (some (if c then x else y))=if c then mX E call me k b (some x) else mX E call me k b (some y):=by split<;>rfl
theorem Wv (t t':T) (o o':List (Nat×List T)) (b b':Bool):(if c then (⟨t,o,b⟩:Res) else ⟨t',o',b'⟩)=⟨if c then t else t',if c then o else o',if c then b else b'⟩:=by split<;>rfl
end code
open Go Go.RowKit
def rF (P:Program):List Field→Nat→Nat→Bool
 | [],a,tot=>a==tot
 | f::fs,a,tot=>f.offset==a&&rF P fs (a+P.cellsOf f.type) tot
def lT (sz:TypeId→Nat) (P:Program):Nat→TypeId→Bool
 | 0,_=>false
 | n+1,t=>
  match P.underlying t with
  | some .bool | some (.int _) | some .string=>true
  | some (.slice e)=>sz e==P.cellsOf e&&P.cellsOf e != 0&&P.bytesOf e != 0&&lT sz P n e
  | some (.struct fs)=>rF P fs.toList 0 (P.cellsOf t)&&fs.toList.all fun f=>lT sz P n f.type
  | _=>false
def Vk (Q:TypeId→List T→Prop):List Field→List T→Prop
 | [],ts=>ts=[]
 | f::fs,ts=>∃ c r,ts=c++r∧Q f.type c∧Vk Q fs r
def P0 (P:Program):Nat→TypeId→List T→Prop
 | 0,_,_=>False
 | n+1,t,ts=>
  match P.underlying t with
  | some .bool=>∃ b,ts=[.v (.bool b)]
  | some (.int k)=>∃ x,ts=[.v (.int k x)]∧(Lit.int k x).wf=true
  | some .string=>∃ s:ByteArray,ts=[.v (.string s)]∧s.size≤reachBytes
  | some (.slice e)=>∃ es,ts=[.sl e es]∧es.length≤reachBytes∧∀ c,c∈es→P0 P n e c
  | some (.struct fs)=>Vk (P0 P n) fs.toList ts
  | _=>False
theorem b7p {sz h I}:∀ {c d:List T} {us vs:List Value},okL sz h I c us []→okL sz h I d vs []→okL sz h I (c++d) (us++vs) []
 | [],d,us,vs,h1,h2=>by
  simp only[okL] at h1
  rw[h1.1];simpa using h2
 | t::c,d,us,vs,h1,h2=>by
  simp only[okL] at h1
  obtain⟨u,us',f1,f2,rfl,hf,h3,h4⟩:=h1
  have e:=List.append_eq_nil_iff.1 hf.symm
  obtain⟨rfl,rfl⟩:=e
  exact⟨u,us'++vs,[],[],rfl,rfl,h3,b7p h4 h2⟩
theorem c5o {sz h I} {s:Nat} {Q:List T→Prop}:∀ (m:Nat) (l:List Value),
  (∀ i,i<m→∃ c,Q c∧c.length=s∧okL sz h I c ((l.drop (i*s)).take s) [])→∃ es:List (List T),es.length=m∧(∀ c,c∈es→Q c)∧C3 sz h I s es l []
 | 0,l,_=>⟨[],rfl,fun c hc=>by simp at hc,rfl⟩
 | m+1,l,hx=>by
  obtain⟨c,q,hl,hc⟩:=hx 0 (by omega)
  obtain⟨es,h1,h2,h3⟩:=c5o (Q:=Q) m (l.drop s) (fun i hi=>by
   obtain⟨c,q,hl,hc⟩:=hx (i+1) (by omega)
   refine⟨c,q,hl,?_⟩
   rw[List.drop_drop]
   have e:s+i*s=(i+1)*s:=by rw[Nat.add_mul];omega
   rw[e];exact hc)
  refine⟨c::es,by simp[h1],fun d hd=>?_,[],[],hl,rfl,by simpa using hc,h3⟩
  rcases List.mem_cons.1 hd with rfl | hd
  ·exact q
  ·exact h2 d hd
section
variable {H:Type} {enc:TypeId×Value→H} {P:Program} {w:World} {base:Nat} {spare:Nat→Bool} {Cn:Bool} {sz:TypeId→Nat} {I:Nat→Prop}
theorem c8p {Q:TypeId→List T→Prop} {tot:Nat} {cs:List Value}:∀ (fs:List Field) (a:Nat),rF P fs a tot=true→cs.length=tot→a≤tot→
  (∀ f,f∈fs→∃ ts,Q f.type ts∧okL sz w.heap I ts ((cs.drop f.offset).take (P.cellsOf f.type)) [])→∃ ts,Vk Q fs ts∧okL sz w.heap I ts (cs.drop a) []
 | [],a,ht,hl,ha,hx=>by
  simp only[rF,beq_iff_eq] at ht
  refine⟨[],rfl,?_⟩
  rw[List.drop_eq_nil_of_le (by omega)];exact⟨rfl,rfl⟩
 | f::fs,a,ht,hl,ha,hx=>by
  simp only[rF,Bool.and_eq_true,beq_iff_eq] at ht
  obtain⟨h1,h2⟩:=ht
  obtain⟨c,q1,q2⟩:=hx f (by simp)
  have D8:a+P.cellsOf f.type≤tot:=by
   clear hx q1 q2
   have:∀ (fs:List Field) (a:Nat),rF P fs a tot=true→a≤tot:=by
    intro fs
    induction fs with
    | nil=>intro a h;simp[rF] at h;omega
    | cons g gs ih=>
     intro a h
     simp only[rF,Bool.and_eq_true] at h
     have:=ih _ h.2;omega
   exact this fs _ h2
  obtain⟨r,q3,q4⟩:=c8p fs (a+P.cellsOf f.type) h2 hl D8 (fun g hg=>hx g (by simp[hg]))
  refine⟨c++r,⟨c,r,rfl,q1,q3⟩,?_⟩
  have e:cs.drop a=(cs.drop f.offset).take (P.cellsOf f.type)++cs.drop (a+P.cellsOf f.type):=by
   rw[h1,←List.drop_drop,List.take_append_drop]
  rw[e];exact b7p q2 q4
theorem c8d {e:TypeId} {k:Nat} {d:DataW H} (hk:k∈d.weights P e):∀ {l:List (DataW H)},d∈l→k∈DataW.weightsAll P e l
 | [],h=>by simp at h
 | x::l,h=>by
  unfold DataW.weightsAll
  rcases List.mem_cons.1 h with rfl | h
  ·exact List.mem_append_left _ hk
  ·exact List.mem_append_right _ (c8d hk h)
theorem xB {k:Nat} {d:DataW H} {t:TypeId} (hk:k∈d.weights P t):∀ {ts:List TypeId} {l:List (DataW H)} {i:Nat},ts[i]?=some t→l[i]?=some d→k∈DataW.weightsEach P ts l
 | [],l,i,h,_=>by simp at h
 | _::_,[],i,_,h=>by simp at h
 | t'::ts,d'::l,0,h1,h2=>by
  simp at h1 h2
  subst h1;subst h2
  unfold DataW.weightsEach
  exact List.mem_append_left _ hk
 | t'::ts,d'::l,i+1,h1,h2=>by
  unfold DataW.weightsEach
  exact List.mem_append_right _ (xB hk (by simpa using h1) (by simpa using h2))
theorem Ga (hI:∀ b,b<w.heap.size→I b):∀ (n:Nat) (fuel:Nat) (t:TypeId) (cs:List Value) (x:DataW H×List MemPlace),lT sz P n t=true→
  DataW.trod enc P w base spare Cn fuel t cs=some x→(∀ k,k∈x.1.weights P t→k≤reachBytes)→∃ ts,P0 P n t ts∧okL sz w.heap I ts cs []
 | 0,_,_,_,_,h,_,_=>by simp[lT] at h
 | n+1,fuel,t,cs,x,hp,h,jH=>by
  unfold lT at hp
  unfold P0
  split at hp
  ·rename_i hu
   obtain⟨b,rfl,_⟩:=DataW.trod_bool hu h
   exact⟨_,⟨b,rfl⟩,⟨_,[],[],[],rfl,rfl,⟨rfl,rfl⟩,⟨rfl,rfl⟩⟩⟩
  ·rename_i hu
   obtain⟨b,rfl,_,hw⟩:=DataW.trod_int hu h
   exact⟨_,⟨b,rfl,hw⟩,⟨_,[],[],[],rfl,rfl,⟨rfl,rfl⟩,⟨rfl,rfl⟩⟩⟩
  ·rename_i hu
   obtain⟨b,rfl,rfl,hw⟩:=DataW.trod_string hu h
   have hw:=jH b.data.toList.length (by simp[DataW.weights])
   exact⟨_,⟨b,rfl,hw⟩,⟨_,[],[],[],rfl,rfl,⟨rfl,rfl⟩,⟨rfl,rfl⟩⟩⟩
  ·rename_i e hu
   simp only[Bool.and_eq_true,beq_iff_eq,bne_iff_ne] at hp
   obtain⟨⟨⟨p1,p2⟩,p4⟩,p3⟩:=hp
   rcases DataW.trod_slice hu h with⟨rfl,_⟩ | ⟨a,len,cap,elems,rest,m,_,rfl,rfl,hb,hl,hm,D7,V3,_,_⟩
   ·exact⟨[.sl e []],⟨[],rfl,by simp,fun c hc=>by simp at hc⟩,⟨_,[],[],[],rfl,rfl,⟨rfl,none,0,rfl,Nat.le_refl _,.inl rfl⟩,⟨rfl,rfl⟩⟩⟩
   ·rcases Nat.eq_zero_or_pos len with h0 | h0
    ·subst h0
     exact⟨[.sl e []],⟨[],rfl,by simp,fun c hc=>by simp at hc⟩,⟨_,[],[],[],rfl,rfl,⟨rfl,some a,cap,rfl,by simp,.inl rfl⟩,⟨rfl,rfl⟩⟩⟩
    ·have hwl:len≤reachBytes:=by
      have:=jH ((elems.length+rest.length)*P.bytesOf e) (by simp[DataW.weights,hu])
      have h1:elems.length+rest.length≤(elems.length+rest.length)*P.bytesOf e:=Nat.le_mul_of_pos_right _ (by omega)
      omega
     have hwe:∀ y,y∈elems→∀ k,k∈y.1.weights P e→k≤reachBytes:=fun y hy k hk=>jH k (by
      have:k∈DataW.weightsAll P e (elems.map (·.1)):=c8d hk (List.mem_map_of_mem hy)
      simp[DataW.weights,hu,this])
     have Dr:∀ i,i<len→∃ cs',w.cells? base (a.add (i*P.cellsOf e)) (P.cellsOf e)=some cs'∧∃ y,DataW.trod enc P w base spare Cn m e cs'=some y∧y∈elems:=fun i hi=>by
      have hx:=V3 i hi
      have hs:elems[i]?=some elems[i]:=by simp[D7,hi]
      rw[hs] at hx
      cases hc:w.cells? base (a.add (i*P.cellsOf e)) (P.cellsOf e) with
      | none=>rw[hc] at hx;simp at hx
      | some cs'=>rw[hc] at hx;exact⟨cs',rfl,_,hx,List.getElem_mem _⟩
     obtain⟨cs0,pL,_⟩:=Dr 0 h0
     obtain⟨_,G2,hg0⟩:=World.cells?_some pL
     have hg:=hg0 0 (by omega)
     have Kr:(a.add (0*P.cellsOf e)).add 0=a:=by simp[Addr.add]
     rw[Kr] at hg
     obtain⟨b,o,spot⟩:=a
     have hcs0:cs0[0]?=some cs0[0]:=by simp
     rw[hcs0] at hg
     unfold World.cell? at hg
     cases V5:w.heap[b]? with
     | none=>simp only at hg;rw[V5] at hg;simp at hg
     | some ob=>
      cases ob with
      | cells arr el fz=>
       simp only at hg
       rw[V5] at hg
       simp only at hg
       split at hg
       ·simp at hg
       ·rename_i jP
        have jP:spot=none:=by cases spot<;>simp_all
        subst jP
        have hbs:b<w.heap.size:=(Array.getElem?_eq_some_iff.1 V5).1
        have O5:∀ i,i<len→∀ cs',w.cells? base ((⟨b,o,none⟩:Addr).add (i*P.cellsOf e)) (P.cellsOf e)=some cs'→cs'=(arr.toList.drop (o+i*P.cellsOf e)).take (P.cellsOf e):=fun i hi cs' hc=>by
         obtain⟨_,hl',hg'⟩:=World.cells?_some hc
         have Kr:∀ j,((⟨b,o,none⟩:Addr).add (i*P.cellsOf e)).add j=⟨b,o+i*P.cellsOf e+j,none⟩:=fun j=>by
          unfold Addr.add
          by_cases e1:i*P.cellsOf e=0<;>by_cases e2:j=0<;>simp[e1,e2]
         have hget:∀ j,j<P.cellsOf e→arr.toList[o+i*P.cellsOf e+j]?=cs'[j]?:=fun j hj=>by
          have:=hg' j hj
          rw[Kr j] at this
          unfold World.cell? at this
          rw[V5] at this
          simpa using this
         apply List.ext_getElem?
         intro j
         rw[List.getElem?_take,List.getElem?_drop]
         split
         ·rename_i hj;exact (hget j hj).symm
         ·rw[List.getElem?_eq_none];omega
        obtain⟨es,g1,g2,g3⟩:=c5o (sz:=sz) (h:=w.heap) (I:=I) (s:=P.cellsOf e) (Q:=P0 P n e) len (arr.toList.drop o) (fun i hi=>by
         obtain⟨cs',hc,y,hy,hye⟩:=Dr i hi
         obtain⟨ts,q1,q2⟩:=Ga hI n m e cs' y p3 hy (hwe y hye)
         have hl':=(World.cells?_some hc).2.1
         have e1:=O5 i hi cs' hc
         refine⟨ts,q1,by rw[←M5 q2];exact hl',?_⟩
         rw[List.drop_drop,←e1];exact q2)
        refine⟨[.sl e es],⟨es,rfl,by omega,g2⟩,⟨_,[],[],[],rfl,rfl,⟨rfl,some ⟨b,o,none⟩,cap,by rw[g1],by omega,.inr ⟨b,o,arr,el,fz,rfl,hI b hbs,V5,?_⟩⟩,⟨rfl,rfl⟩⟩⟩
        rw[p1];exact g3
      | _=>simp only at hg;rw[V5] at hg;simp at hg
  ·rename_i fs hu
   simp only[Bool.and_eq_true,List.all_eq_true] at hp
   obtain⟨p1,p2⟩:=hp
   obtain⟨xs,m,_,rfl,hl,wY,hf⟩:=DataW.trod_struct hu h
   obtain⟨ts,q1,q2⟩:=c8p (P:=P) (w:=w) (sz:=sz) (I:=I) (Q:=P0 P n) fs.toList 0 p1 hl (by omega) (fun f hf'=>by
    obtain⟨i,hi,he⟩:=List.getElem_of_mem hf'
    have hi':i<fs.size:=by simpa using hi
    have h1:fs[i]?=some f:=by rw[←he];simp
    have h2:=hf i f h1
    have h3:xs[i]?=some xs[i]:=by simp
    rw[h3] at h2
    exact Ga hI n m f.type _ _ (p2 f hf') h2 fun k hk=>jH k (by
     simp only[DataW.weights,hu]
     exact xB hk (i:=i) (by simp[h1]) (by simp[h3])))
   exact⟨ts,q1,by simpa using q2⟩
  ·simp at hp
end
theorem e7b {H:Type} {enc:TypeId×Value→H} {P:Program} {w:World} {base:Nat} {spare:Nat→Bool} {Cn:Bool} {sz:TypeId→Nat} {I:Nat→Prop} (hI:∀ b,b<w.heap.size→I b)
  {n:Nat} {t:TypeId} {v:Value} {d:DataW H} {ps:List MemPlace} (hp:lT sz P n t=true) (h:DataW.Trod enc P w base spare Cn t v d ps) (hv:v.cells=#[v]) (jH:∀ k,k∈d.weights P t→k≤reachBytes):
  ∃ ts,P0 P n t ts∧okL sz w.heap I ts [v] []:=by
 obtain⟨fuel,hf⟩:=h
 rw[hv] at hf
 exact Ga hI n fuel t [v] _ hp hf jH
end Go.TM
namespace Go.TM.Ft
open Go Go.TM Go.Proofs Go.RowKit
theorem a1o {w:World} {x:Obj} {a:Addr} {u:Value} (h:w.cell? a=some u):(w.alloc x).cell? a=some u:=by
 unfold World.cell? at h ⊢
 have hb:a.block<w.heap.size:=by
  rcases Nat.lt_or_ge a.block w.heap.size with h1 | h1
  ·exact h1
  ·rw[Array.getElem?_eq_none h1] at h;simp at h
 have e:(w.alloc x).heap[a.block]?=w.heap[a.block]?:=by
  show (w.heap.push x)[a.block]?=_
  rw[Array.getElem?_push_lt hb,Array.getElem?_eq_getElem hb]
 rw[e];exact h
theorem f1u (b o n cap k:Nat) (H1 H2 v1 v2 v3 v4 v5 u:Value) (w:World) (hk:k<n) (hu:w.cell? ⟨b,o+k,none⟩=some u):
  Calls Tryz.prog 127 #[.agg #[.slice (some ⟨b,o,none⟩) n cap,H1,H2],.agg #[.int .i64 k,v1,v2,v3,v4,v5]] w fun e w'=>e=.returned u∧
   w'=((w.alloc (Obj.cells #[Value.slice (some { block:=b,off:=o }) n cap,H1,H2] 59)).alloc (Obj.cells #[Value.int IntKind.i64 ↑k,v1,v2,v3,v4,v5] 163)):=by
 have s1:Hid (k<n):=hk
 have hc:=a1o (x:=Obj.cells #[Value.int IntKind.i64 ↑k,v1,v2,v3,v4,v5] 163) (a1o (x:=Obj.cells #[Value.slice (some { block:=b,off:=o }) n cap,H1,H2] 59) hu)
 go_enter Tryz.func127,Tryz.ntmps127
 go_wp2
 go_ret
 exact⟨rfl,rfl⟩
theorem e2t {w w':World} {x y:Obj} (h:w'=(w.alloc x).alloc y):∀ z:Zn,z.w0=w→z.F0=[]→Fr z w':=by
 intro z hz _
 subst hz
 subst h
 refine⟨rfl,rfl,rfl,?_,fun b hb _=>?_⟩
 ·show z.w0.heap.size≤((z.w0.heap.push x).push y).size
  simp;omega
 ·show ((z.w0.heap.push x).push y)[b]?=z.w0.heap[b]?
  rw[Array.getElem?_push_lt (by simp;omega),Array.getElem_push_lt hb,Array.getElem?_eq_getElem hb]
def sZ (f:Nat):Option View:=if f=127 then some ⟨160,[⟨.agg [.sl 160 [[.sl 124 []]],.sl 163 [],.v (.int .i64 0)],none⟩,⟨.agg [.v (.int .i64 0),.v (.int .i64 0),.v (.int .i64 0),.sl 2 [],.sl 2 [],.sl 2 []],none⟩]⟩ else none
theorem e3n {E:Env} (hP:E.P=Tryz.prog) (hs:szOf E 160=1):∀ f v,sZ f=some v→ViewOk E f v:=by
 intro f v h
 unfold sZ at h
 split at h
 ·rename_i hf
  subst hf
  simp only[Option.some.injEq] at h
  subst h
  refine⟨hs,fun w b o n cap k H1 H2 vs u hl hk hu=>?_⟩
  match vs,hl with
  | [v1,v2,v3,v4,v5],_=>
   rw[hP]
   refine Calls.mono (f1u b o n cap k H1 H2 v1 v2 v3 v4 v5 u w hk hu) fun e w' he=>?_
   obtain⟨rfl,C6⟩:=he
   exact⟨rfl,e2t C6⟩
 ·simp at h
end Go.TM.Ft
