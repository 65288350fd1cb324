/- Of the tree machine: its evaluator and why it is sound. -/
import Derived.Test.YtlmiemdojgahaaaGreatKTm3
import Derived.Carry
import Derived.ChangeArms
import Derived.ChangeShapes
import Derived.OpenShut
import GoSem.ClaimJoined
import Derived.Test.YtlmiemdojgahaaaGreatProg
set_option linter.unusedSimpArgs false
set_option linter.unusedVariables false
namespace Go.TM
open Go
theorem b4h {α β:Type} {rt:List (Nat × Root)}:∀ {m:Rd α} {k:α→Rd β} {a:α},m.run rt=some a→(m.bind k).touched rt=m.touched rt++(k a).touched rt
 | .ret b,k,a,h=>by simp only [Rd.run,Option.some.injEq] at h; subst h; rfl
 | .fail,k,a,h=>by simp [Rd.run] at h
 | .cell hh d v c k0,k,a,h=>by
  obtain ⟨r,t,h1,h2,h3,h4⟩:=Q3 h
  simp only [Rd.bind,Rd.touched,h1,h2,h3,if_true]
  rw [b4h h4]; rfl
 | .root hh d v k0,k,a,h=>by
  simp only [Rd.run] at h
  split at h
  ·rename_i r hl
   split at h
   ·rename_i hv
    simp only [Rd.bind,Rd.touched,hl,hv,if_true]
    rw [b4h h]; rfl
   ·simp at h
  ·simp at h
 | .stamp hh d v k0,k,a,h=>by
  obtain ⟨r,h1,h2,h3⟩:=b7w h
  simp only [Rd.bind,Rd.touched,h1,h2,if_true]
  rw [b4h h3]; rfl
abbrev M8:=FuncId→List Arg→Option Res
def Le (c c':M8):Prop:=∀ f a r,c f a=some r→c' f a=some r
theorem Le.refl (c:M8):Le c c:=fun _ _ _ h=>h
theorem Le.trans {a b c:M8} (h:Le a b) (h':Le b c):Le a c:=fun f x r hr=>h' f x r (h f x r hr)
def Alike {α:Type} (rt:List (Nat × Root)) (x y:Rd α) (e:α):Prop:=y.run rt=some e∧y.touched rt=x.touched rt
theorem Alike.bind {α β:Type} {rt:List (Nat × Root)} {m:Rd α} {k k':α→Rd β} {a:α} {e:β} (h:m.run rt=some a) (hk:Alike rt (k a) (k' a) e):Alike rt (m.bind k) (m.bind k') e:=
 ⟨by rw [a5c h]; exact hk.1,by rw [b4h h,b4h h,hk.2]⟩
section mono
variable {E:Env} {me:FuncId}
theorem g3y {c:M8} {d tick:Nat} {f:FuncId} {tys:List TypeId} {ts:List T} {rt:List (Nat × Root)} {e:Eff} (h:(a6j E c me d tick f tys ts).run rt=some e):
  ∃ a r,c f a=some r∧∀ c':M8,c' f a=some r→Alike rt (a6j E c me d tick f tys ts) (a6j E c' me d tick f tys ts) e:=by
 unfold a6j at h ⊢
 obtain ⟨l,h1,h2⟩:=A2 h
 split at h2
 ·rename_i hcond
  cases hc:c f l.args with
  | none=>rw [hc] at h2; simp [Rd.run] at h2
  | some r=>
   refine ⟨l.args,r,hc,fun c' hc'=>Alike.bind h1 ?_⟩
   rw [hc] at h2
   rw [if_pos hcond,if_pos hcond,hc,hc']
   exact ⟨h2,rfl⟩
 ·simp [Rd.run] at h2
theorem Alike.root {α:Type} {rt:List (Nat × Root)} {hh:Bool} {d v:Nat} {k k':Root→Rd α} {ro:Root} {e:α} (h1:lk rt d=some ro) (h2:ro.at_ hh=v) (hk:Alike rt (k ro) (k' ro) e):Alike rt (.root hh d v k) (.root hh d v k') e:=by
 refine ⟨?_,?_⟩
 ·simp only [Rd.run,h1,h2,if_true]; exact hk.1
 ·simp only [Rd.touched,h1,h2,if_true]; rw [hk.2]
theorem g4k {c:M8} {f:FuncId} {ts:List T} {rt:List (Nat × Root)} {e:Eff} (h:(V8 c f ts).run rt=some e):
  ∃ a r,c f a=some r∧∀ c':M8,c' f a=some r→Alike rt (V8 c f ts) (V8 c' f ts) e:=by
 unfold V8 at h ⊢
 split at h
 ·unfold a1x at h ⊢
  obtain ⟨q,h1,h2⟩:=A2 h
  obtain ⟨ys,h3,h4⟩:=A2 h2
  split at h4
  ·rename_i r hr
   refine ⟨_,r,hr,fun c' hc'=>Alike.bind h1 (Alike.bind h3 ?_)⟩
   simp only [hr,hc']
   exact ⟨h4,rfl⟩
  ·simp [Rd.run] at h4
 ·unfold a1v at h ⊢
  obtain ⟨p,h1,h2⟩:=A2 h
  obtain ⟨ro,g1,g2,h3⟩:=a1c h2
  obtain ⟨row,h4,h5⟩:=A2 h3
  obtain ⟨ys,h6,h7⟩:=A2 h5
  split at h7
  ·rename_i r hr
   refine ⟨_,r,hr,fun c' hc'=>Alike.bind h1 ?_⟩
   refine Alike.root g1 g2 ?_
   refine Alike.bind h4 (Alike.bind h6 ?_)
   simp only [hr,hc']
   exact ⟨h7,rfl⟩
  ·simp [Rd.run] at h7
 ·simp [Rd.run] at h
theorem g4l {c:M8} {d tick:Nat} {f:FuncId} {tys:List TypeId} {ts:List T} {rt:List (Nat × Root)} {e:Eff} (h:(a6p E c me d tick f tys ts).run rt=some e):
  ∃ a r,c f a=some r∧∀ c':M8,c' f a=some r→Alike rt (a6p E c me d tick f tys ts) (a6p E c' me d tick f tys ts) e:=by
 unfold a6p at h ⊢
 obtain ⟨l,h1,h2⟩:=A2 h
 cases hw:l.way with
 | nil=>rw [hw] at h2; simp [Rd.run] at h2
 | cons y ys=>
  cases ys with
  | cons y2 ys=>rw [hw] at h2; simp [Rd.run] at h2
  | nil=>
   rw [hw] at h2
   simp only at h2
   by_cases hc0:l.used.contains y.d=true
   ·rw [if_pos hc0] at h2; simp [Rd.run] at h2
   ·rw [if_neg hc0] at h2
    cases hc:c f l.args with
    | none=>rw [hc] at h2; simp [Rd.run] at h2
    | some r=>
     refine ⟨l.args,r,hc,fun c' hc'=>Alike.bind h1 ?_⟩
     rw [hc] at h2
     rw [hw]
     simp only [if_neg hc0,hc,hc']
     exact ⟨h2,rfl⟩
theorem g3z {c:M8} {d tick:Nat} {f:FuncId} {tys:List TypeId} {ts:List T} {rt:List (Nat × Root)} {e:Eff} (h:(a7r E c me d tick f tys ts).run rt=some e):
  ∃ a r,c f a=some r∧∀ c':M8,c' f a=some r→Alike rt (a7r E c me d tick f tys ts) (a7r E c' me d tick f tys ts) e:=by
 unfold a7r at h ⊢
 split at h
 ·rename_i hl; simp only [hl,if_true]; exact g4k h
 ·rename_i hl
  simp only [hl,if_false]
  split at h
  ·rename_i hf; simp only [hf,if_true]; exact g4l h
  ·rename_i hf; simp only [hf,if_false]; exact g3y h
theorem d1w {c:M8} {d tick:Nat} {f:FuncId} {tys:List TypeId} {ts:List T} {rt:List (Nat × Root)} {e:Eff} (h:(a3s E c me d tick f tys ts).run rt=some e):
  ∃ a r,c f a=some r∧∀ c':M8,c' f a=some r→Alike rt (a3s E c me d tick f tys ts) (a3s E c' me d tick f tys ts) e:=by
 unfold a3s at h ⊢
 cases hv:b3b E f ts with
 | none=>
  rw [hv] at h
  exact g3z h
 | some v=>
  rw [hv] at h
  simp only at h ⊢
  cases hc:c f v.args with
  | none=>unfold a5l at h; rw [hc] at h; simp [Rd.run] at h
  | some r=>
   refine ⟨v.args,r,hc,fun c' hc'=>?_⟩
   have e1:a5l c' (E.keep me d) tick f v ts=a5l c (E.keep me d) tick f v ts:=by unfold a5l; rw [hc,hc']
   rw [e1]
   exact ⟨h,rfl⟩
theorem d6e {c:M8} {val:Operand→Option T} {tick d:Nat} {ty0:TypeId} {op:Op} {rt:List (Nat × Root)} {e:Eff} (h:(B2 E c me val tick d ty0 op).run rt=some e):
  (∀ c':M8,Alike rt (B2 E c me val tick d ty0 op) (B2 E c' me val tick d ty0 op) e)∨
  ∃ f a r,c f a=some r∧∀ c':M8,c' f a=some r→Alike rt (B2 E c me val tick d ty0 op) (B2 E c' me val tick d ty0 op) e:=by
 cases op
 case call cl=>
  cases hcl:cl.callee with
  | value g=>
   right
   simp only [B2,hcl] at h ⊢
   obtain ⟨tg,h1,h2⟩:=A2 h
   obtain ⟨ts,h3,h4⟩:=A2 h2
   split at h4
   ·rename_i f first caps
    split at h4
    ·rename_i hcond
     obtain ⟨a,r,q1,q2⟩:=d1w h4
     refine ⟨f,a,r,q1,fun c' hc'=>Alike.bind h1 (Alike.bind h3 ?_)⟩
     simp only [hcond,if_true]
     exact q2 c' hc'
    ·simp [Rd.run] at h4
   ·obtain ⟨a,r,q1,q2⟩:=d1w h4
    exact ⟨_,a,r,q1,fun c' hc'=>Alike.bind h1 (Alike.bind h3 (q2 c' hc'))⟩
   ·simp [Rd.run] at h4
  | invoke r m=>left; intro c'; simp only [B2,hcl] at h ⊢; exact ⟨h,rfl⟩
  | builtin b=>left; intro c'; cases b <;> simp only [B2,hcl] at h ⊢ <;> exact ⟨h,rfl⟩
 case makeFunc fn first caps=>left; intro c'; cases fn <;> simp only [B2] at h ⊢ <;> exact ⟨h,rfl⟩
 all_goals (left; intro c'; simp only [B2] at h ⊢; exact ⟨h,rfl⟩)
theorem h2k {c c':M8} (hl:Le c c') {val:Operand→Option T} {tick d:Nat} {ty0:TypeId} {op:Op} {rt:List (Nat × Root)} {e:Eff} (h:(B2 E c me val tick d ty0 op).run rt=some e):
  Alike rt (B2 E c me val tick d ty0 op) (B2 E c' me val tick d ty0 op) e:=by
 rcases d6e h with h1 | ⟨f,a,r,h1,h2⟩
 ·exact h1 c'
 ·exact h2 c' (hl f a r h1)
theorem a8w {c c':M8} (hl:Le c c') {ops:List Oper} {st st':St} {o:Oper} (h:a1m E c me ops st o=some st'):
  a1m E c' me ops st o=some st'∧K2 E c' me ops st o=K2 E c me ops st o:=by
 unfold a1m gif at h ⊢
 unfold K2
 split at h
 ·rename_i b hw
  cases b with
  | true=>
   rw [if_pos rfl] at h
   split at h
   ·rename_i e he
    obtain ⟨h1,h2⟩:=h2k hl he
    simp only [if_true,h1,h2]
    exact ⟨h,trivial⟩
   ·simp at h
  | false=>
   rw [if_neg (by simp)] at h
   exact ⟨h,rfl⟩
 ·simp at h
theorem c2x {c c':M8} (hl:Le c c') {ops:List Oper}:∀ {l:List Oper} {st st':St},a3i E c me ops l st=some st'→a3i E c' me ops l st=some st'
 | [],_,_,h=>h
 | o::l,st,st',h=>by
  simp only [a3i] at h ⊢
  split at h
  ·rename_i s1 h1
   rw [(a8w hl h1).1]
   exact c2x hl h
  ·simp at h
theorem b4o {c c':M8} (hl:Le c c') {ops:List Oper}:∀ {l:List Oper} {ks:List (List Tmp)} {st st':St},a2b E c me ops ks l st=some st'→a2b E c' me ops ks l st=some st'
 | [],_,_,_,h=>h
 | o::l,ks,st,st',h=>by
  simp only [a2b] at h ⊢
  split at h
  ·rename_i s1 h1
   rw [(a8w hl h1).1]
   simp only
   split at h
   ·exact b4o hl h
   ·exact b4o hl h
  ·simp at h
theorem c2c {c c':M8} (hl:Le c c') {ops:List Oper} {ps:List (Nat × Nat)}:∀ {l:List Oper} {i:Nat} {st:St} {r},G3 E c me ops ps i l st=some r→G3 E c' me ops ps i l st=some r
 | [],_,_,_,h=>h
 | o::l,i,st,r,h=>by
  simp only [G3] at h ⊢
  split at h
  ·rename_i s1 h1
   obtain ⟨q1,q2⟩:=a8w hl h1
   rw [q1,q2]
   split at h
   ·rename_i F fs h2
    simp only
    rw [c2c hl h2]
    exact h
   ·simp at h
  ·simp at h
theorem g4m {c c':M8} (hl:Le c c') {id:Nat} {ops:List Oper} {dr:Bool} {st st':St} (h:a2v E c me id ops dr st=some st'):a2v E c' me id ops dr st=some st':=by
 unfold a2v at h ⊢
 by_cases hclr:E.clr me id=true
 ·rw [if_pos hclr] at h ⊢; exact h
 rw [if_neg hclr] at h ⊢
 split at h
 ·rename_i hd
  rw [if_pos hd]
  split at h
  ·rename_i hp
   rw [if_pos hp]
   split at h
   ·rename_i F fs hF
    rw [c2c hl hF]
    exact h
   ·simp at h
  ·rename_i hp
   rw [if_neg hp]
   split at h
   ·rename_i F hF
    rw [c2x hl hF]
    exact h
   ·simp at h
 ·rename_i hd
  rw [if_neg hd]
  split at h
  ·rename_i F hF
   rw [b4o hl hF]
   exact h
  ·simp at h
theorem b1w {c c':M8} (hl:Le c c') {lp lp':Code→St→Option (Ex × St)} (hlp:∀ k st r,lp k st=some r→lp' k st=some r):
  ∀ {k:Code} {st:St} {r},C0 E c me lp k st=some r→C0 E c' me lp' k st=some r:=by
 intro k
 induction k with
 | seq a b iha ihb=>
  intro st r h
  simp only [C0] at h ⊢
  cases ha:C0 E c me lp a st with
  | none=>rw [ha] at h; simp at h
  | some p=>
   rw [ha] at h
   rw [iha ha]
   obtain ⟨x,s1⟩:=p
   cases x with
   | normal=>exact ihb h
   | exit i=>exact h
   | ret=>exact h
 | cond o a b iha ihb=>
  intro st r h
  simp only [C0] at h ⊢
  split at h
  ·rename_i t hv
   split at h
   ·rename_i ht; simp only [ht,if_true]; exact iha h
   ·rename_i ht; simp only [if_neg ht]; exact ihb h
  ·simp at h
 | block id b ihb=>
  intro st r h
  simp only [C0] at h ⊢
  cases hb:C0 E c me lp b st with
  | none=>rw [hb] at h; simp at h
  | some p=>rw [hb] at h; rw [ihb hb]; exact h
 | loop b _=>intro st r h; simp only [C0] at h ⊢; exact hlp _ _ _ h
 | region id ops dr=>
  intro st r h
  simp only [C0] at h ⊢
  split at h
  ·rename_i s1 h1; rw [g4m hl h1]; exact h
  ·simp at h
 | skip=>intro st r h; simpa only [C0] using h
 | ret=>intro st r h; simpa only [C0] using h
 | exit id=>intro st r h; simpa only [C0] using h
 | _=>intro st r h; simp [C0] at h
theorem b1x {c c':M8} (hl:Le c c'):∀ {k k':Nat},k≤k'→∀ {b:Code} {st:St} {r},A6 E c me k b st=some r→A6 E c' me k' b st=some r
 | 0,_,_,b,st,r,h=>by simp [A6] at h
 | k+1,0,hk,_,_,_,_=>by omega
 | k+1,k'+1,hk,b,st,r,h=>by
  simp only [A6] at h ⊢
  have ih:∀ b st r,A6 E c me k b st=some r→A6 E c' me k' b st=some r:=fun b st r h=>b1x hl (by omega) h
  cases hb:C0 E c me (A6 E c me k) b st with
  | none=>rw [hb] at h; simp at h
  | some p=>
   rw [hb] at h
   rw [b1w hl ih hb]
   obtain ⟨x,s1⟩:=p
   cases x with
   | normal=>exact ih _ _ _ h
   | exit i=>exact h
   | ret=>exact h
theorem d4g {c c':M8} (hl:Le c c') {k k':Nat} (hk:k≤k') {f:FuncId} {fn:Func} {args:List Arg} {r:Res} (h:a3v E c k f fn args=some r):a3v E c' k' f fn args=some r:=by
 unfold a3v at h ⊢
 split at h
 ·simp at h
 ·rename_i b hb
  cases hc:C0 E c f (A6 E c f k) b ⟨max fn.ntmps args.length,W3 0 args,G7 0 args,2⟩ with
  | none=>rw [hc] at h; simp at h
  | some p=>
   rw [hc] at h
   rw [b1w hl (fun b st r h=>b1x hl hk h) hc]
   exact h
theorem d2w {c c':M8} (hl:Le c c') {k k':Nat} (hk:k≤k') {f:FuncId} {fn:Func} {args:List Arg} {r:Res} (h:a1e E c k f fn args=some r):a1e E c' k' f fn args=some r:=by
 obtain ⟨b,bb,t,v,rest,cs,ro,y,row,x,st,g1,g2,g3,g4,g5,g6,g7,g8⟩:=b7a h
 have h6:=b1w (me:=f) hl (fun b st r h=>b1x hl hk h) g6
 unfold a1e at h ⊢
 rw [g1] at h ⊢
 simp only [g2] at h ⊢
 subst g3
 simp only at h ⊢
 split
 ·rename_i hc
  rw [if_pos hc] at h
  simp only [g5] at h ⊢
  rw [h6]
  rcases g7 with rfl | rfl <;> exact g8
 ·rename_i hc
  rw [if_neg hc] at h
  simp at h
theorem c6c:∀ (n:Nat),Le (evF E n) (evF E (n+1))
 | 0,f,a,r,h=>by simp [evF] at h
 | n+1,f,a,r,h=>by
  rw [evF] at h ⊢
  split at h
  ·exact h
  ·split at h
   ·rename_i hg
    split at h
    ·simp at h
    ·rename_i fn hf
     rw [if_pos hg]
     split at h
     ·rename_i hm; rw [if_pos hm]; exact d2w (c6c n) (Nat.le_succ n) h
     ·rename_i hm; rw [if_neg hm]; exact d4g (c6c n) (Nat.le_succ n) h
   ·simp at h
theorem a0t {n m:Nat} (h:n≤m):Le (evF E n) (evF E m):=by
 induction h with
 | refl=>exact Le.refl _
 | step _ ih=>exact ih.trans (c6c _)
end mono
open Classical in
noncomputable def orc (E:Env):M8:=fun f a=>if h:∃ r n,evF E n f a=some r then some h.choose else none
section orc
variable {E:Env} {me:FuncId}
theorem b2m {f:FuncId} {a:List Arg} {r:Res}:orc E f a=some r ↔ ∃ n,evF E n f a=some r:=by
 constructor
 ·intro h
  unfold orc at h
  split at h
  ·rename_i hx
   simp only [Option.some.injEq] at h
   rw [← h]
   exact hx.choose_spec
  ·simp at h
 ·rintro ⟨n,hn⟩
  have hx:∃ r n,evF E n f a=some r:=⟨r,n,hn⟩
  unfold orc
  rw [dif_pos hx]
  obtain ⟨m,hm⟩:=hx.choose_spec
  have h1:=a0t (Nat.le_max_left n m) f a _ hn
  have h2:=a0t (Nat.le_max_right n m) f a _ hm
  rw [h1] at h2
  exact h2.symm
theorem i5q (n:Nat):Le (evF E n) (orc E):=fun _ _ _ h=>b2m.2 ⟨n,h⟩
theorem c2y {ops:List Oper} {st st':St} {o:Oper} (h:a1m E (orc E) me ops st o=some st'):∃ n,a1m E (evF E n) me ops st o=some st':=by
 unfold a1m gif at h ⊢
 split at h
 ·rename_i b hw
  cases b with
  | true=>
   rw [if_pos rfl] at h
   split at h
   ·rename_i e he
    rcases d6e he with h1 | ⟨f,a,r,h1,h2⟩
    ·exact ⟨0,by simp only [if_true,(h1 (evF E 0)).1]; exact h⟩
    ·obtain ⟨n,hn⟩:=b2m.1 h1
     exact ⟨n,by simp only [if_true,(h2 (evF E n) hn).1]; exact h⟩
   ·simp at h
  | false=>
   rw [if_neg (by simp)] at h
   exact ⟨0,h⟩
 ·simp at h
theorem d6f {ops:List Oper}:∀ {l:List Oper} {st st':St},a3i E (orc E) me ops l st=some st'→∃ n,a3i E (evF E n) me ops l st=some st'
 | [],_,_,h=>⟨0,h⟩
 | o::l,st,st',h=>by
  simp only [a3i] at h
  split at h
  ·rename_i s1 h1
   obtain ⟨n,hn⟩:=c2y h1
   obtain ⟨m,hm⟩:=d6f h
   refine ⟨max n m,?_⟩
   simp only [a3i]
   rw [(a8w (a0t (Nat.le_max_left n m)) hn).1]
   exact c2x (a0t (Nat.le_max_right n m)) hm
  ·simp at h
theorem c2d {ops:List Oper}:∀ {l:List Oper} {ks:List (List Tmp)} {st st':St},a2b E (orc E) me ops ks l st=some st'→∃ n,a2b E (evF E n) me ops ks l st=some st'
 | [],_,_,_,h=>⟨0,h⟩
 | o::l,ks,st,st',h=>by
  simp only [a2b] at h
  split at h
  ·rename_i s1 h1
   obtain ⟨n,hn⟩:=c2y h1
   cases ks with
   | nil=>
    obtain ⟨m,hm⟩:=c2d h
    refine ⟨max n m,?_⟩
    simp only [a2b]
    rw [(a8w (a0t (Nat.le_max_left n m)) hn).1]
    exact b4o (a0t (Nat.le_max_right n m)) hm
   | cons k ks=>
    obtain ⟨m,hm⟩:=c2d h
    refine ⟨max n m,?_⟩
    simp only [a2b]
    rw [(a8w (a0t (Nat.le_max_left n m)) hn).1]
    exact b4o (a0t (Nat.le_max_right n m)) hm
  ·simp at h
theorem d4h {ops:List Oper} {ps:List (Nat × Nat)}:∀ {l:List Oper} {i:Nat} {st:St} {r},G3 E (orc E) me ops ps i l st=some r→∃ n,G3 E (evF E n) me ops ps i l st=some r
 | [],_,_,_,h=>⟨0,h⟩
 | o::l,i,st,r,h=>by
  simp only [G3] at h
  split at h
  ·rename_i s1 h1
   split at h
   ·rename_i F fs h2
    obtain ⟨n,hn⟩:=c2y h1
    obtain ⟨m,hm⟩:=d4h h2
    refine ⟨max n m,?_⟩
    simp only [G3]
    obtain ⟨q1,q2⟩:=a8w (a0t (Nat.le_max_left n m)) hn
    have q3:=(a8w (i5q (max n m)) q1).2
    rw [q1]
    simp only
    rw [c2c (a0t (Nat.le_max_right n m)) hm]
    simp only
    rw [← q3]
    exact h
   ·simp at h
  ·simp at h
theorem g4n {id:Nat} {ops:List Oper} {dr:Bool} {st st':St} (h:a2v E (orc E) me id ops dr st=some st'):∃ n,a2v E (evF E n) me id ops dr st=some st':=by
 unfold a2v at h ⊢
 by_cases hclr:E.clr me id=true
 ·exact ⟨0,by rw [if_pos hclr] at h ⊢; exact h⟩
 simp only [if_neg hclr] at h ⊢
 split at h
 ·rename_i hd
  split at h
  ·rename_i hp
   split at h
   ·rename_i F fs hF
    obtain ⟨n,hn⟩:=d4h hF
    exact ⟨n,by rw [if_pos hd,if_pos hp,hn]; exact h⟩
   ·simp at h
  ·rename_i hp
   split at h
   ·rename_i F hF
    obtain ⟨n,hn⟩:=d6f hF
    exact ⟨n,by rw [if_pos hd,if_neg hp,hn]; exact h⟩
   ·simp at h
 ·rename_i hd
  split at h
  ·rename_i F hF
   obtain ⟨n,hn⟩:=c2d hF
   exact ⟨n,by rw [if_neg hd,hn]; exact h⟩
  ·simp at h
theorem c2e {lp:Code→St→Option (Ex × St)} {lpn:Nat→Code→St→Option (Ex × St)} (hc:∀ k st r,lp k st=some r→∃ n,lpn n k st=some r) (hm:∀ n m,n≤m→∀ k st r,lpn n k st=some r→lpn m k st=some r):
  ∀ {k:Code} {st:St} {r},C0 E (orc E) me lp k st=some r→∃ n,C0 E (evF E n) me (lpn n) k st=some r:=by
 intro k
 induction k with
 | seq a b iha ihb=>
  intro st r h
  simp only [C0] at h
  cases ha:C0 E (orc E) me lp a st with
  | none=>rw [ha] at h; simp at h
  | some p=>
   rw [ha] at h
   obtain ⟨n,hn⟩:=iha ha
   obtain ⟨x,s1⟩:=p
   cases x with
   | normal=>
    obtain ⟨m,hmm⟩:=ihb h
    refine ⟨max n m,?_⟩
    simp only [C0]
    rw [b1w (a0t (Nat.le_max_left n m)) (hm _ _ (Nat.le_max_left n m)) hn]
    exact b1w (a0t (Nat.le_max_right n m)) (hm _ _ (Nat.le_max_right n m)) hmm
   | exit i=>exact ⟨n,by simp only [C0]; rw [hn]; exact h⟩
   | ret=>exact ⟨n,by simp only [C0]; rw [hn]; exact h⟩
 | cond o a b iha ihb=>
  intro st r h
  simp only [C0] at h ⊢
  split at h
  ·rename_i t hv
   split at h
   ·rename_i ht
    obtain ⟨n,hn⟩:=iha h
    exact ⟨n,by simp only [ht,if_true]; exact hn⟩
   ·rename_i ht
    obtain ⟨n,hn⟩:=ihb h
    exact ⟨n,by simp only [if_neg ht]; exact hn⟩
  ·simp at h
 | block id b ihb=>
  intro st r h
  simp only [C0] at h ⊢
  cases hb:C0 E (orc E) me lp b st with
  | none=>rw [hb] at h; simp at h
  | some p=>
   rw [hb] at h
   obtain ⟨n,hn⟩:=ihb hb
   exact ⟨n,by rw [hn]; exact h⟩
 | loop b _=>
  intro st r h
  simp only [C0] at h ⊢
  exact hc _ _ _ h
 | region id ops dr=>
  intro st r h
  simp only [C0] at h ⊢
  split at h
  ·rename_i s1 h1
   obtain ⟨n,hn⟩:=g4n h1
   exact ⟨n,by rw [hn]; exact h⟩
  ·simp at h
 | skip=>intro st r h; exact ⟨0,by simpa only [C0] using h⟩
 | ret=>intro st r h; exact ⟨0,by simpa only [C0] using h⟩
 | exit id=>intro st r h; exact ⟨0,by simpa only [C0] using h⟩
 | _=>intro st r h; simp [C0] at h
theorem b7b:∀ (k:Nat) {b:Code} {st:St} {r},A6 E (orc E) me k b st=some r→∃ n,A6 E (evF E n) me k b st=some r
 | 0,b,st,r,h=>by simp [A6] at h
 | k+1,b,st,r,h=>by
  simp only [A6] at h
  have hc:∀ b st r,A6 E (orc E) me k b st=some r→∃ n,A6 E (evF E n) me k b st=some r:=fun b st r h=>b7b k h
  have hm:∀ n m,n≤m→∀ b st r,A6 E (evF E n) me k b st=some r→A6 E (evF E m) me k b st=some r:=fun n m hnm b st r h=>b1x (a0t hnm) (Nat.le_refl _) h
  cases hb:C0 E (orc E) me (A6 E (orc E) me k) b st with
  | none=>rw [hb] at h; simp at h
  | some p=>
   rw [hb] at h
   obtain ⟨n,hn⟩:=c2e (lpn:=fun n=>A6 E (evF E n) me k) hc hm hb
   obtain ⟨x,s1⟩:=p
   cases x with
   | normal=>
    obtain ⟨m,hmm⟩:=b7b k h
    refine ⟨max n m,?_⟩
    simp only [A6]
    rw [b1w (a0t (Nat.le_max_left n m)) (hm _ _ (Nat.le_max_left n m)) hn]
    exact hm _ _ (Nat.le_max_right n m) _ _ _ hmm
   | exit i=>exact ⟨n,by simp only [A6]; rw [hn]; exact h⟩
   | ret=>exact ⟨n,by simp only [A6]; rw [hn]; exact h⟩
theorem A3 {f:FuncId} {fn:Func} {args:List Arg} {r:Res} (k:Nat) (hx:E.ext f=none) (hg:E.good f=true) (hm:b3e (E.mode f)=false) (hf:E.P.funcs[f]?=some fn) (h:a3v E (orc E) k f fn args=some r):orc E f args=some r:=by
 have:∃ n,a3v E (evF E n) k f fn args=some r:=by
  unfold a3v at h ⊢
  split at h
  ·simp at h
  ·rename_i b hb
   cases hc:C0 E (orc E) f (A6 E (orc E) f k) b ⟨max fn.ntmps args.length,W3 0 args,G7 0 args,2⟩ with
   | none=>rw [hc] at h; simp at h
   | some p=>
    rw [hc] at h
    obtain ⟨n,hn⟩:=c2e (lpn:=fun n=>A6 E (evF E n) f k) (fun b st r h=>b7b k h) (fun n m hnm b st r h=>b1x (a0t hnm) (Nat.le_refl _) h) hc
    refine ⟨n,?_⟩
    rw [hn]
    exact h
 obtain ⟨n,hn⟩:=this
 refine b2m.2 ⟨max n k+1,?_⟩
 simp only [evF,hx,hg,hf,hm,if_true,Bool.false_eq_true,if_false]
 exact d4g (a0t (Nat.le_max_left n k)) (Nat.le_max_right n k) hn
theorem c4n {f:FuncId} {fn:Func} {args:List Arg} {r:Res} (k:Nat) (hx:E.ext f=none) (hg:E.good f=true) (hm:b3e (E.mode f)=true) (hf:E.P.funcs[f]?=some fn) (h:a1e E (orc E) k f fn args=some r):orc E f args=some r:=by
 obtain ⟨b,bb,t,v,rest,cs,ro,y,row,x,st,g1,g2,g3,g4,g5,g6,g7,g8⟩:=b7a h
 obtain ⟨n,hn⟩:=c2e (lpn:=fun n=>A6 E (evF E n) f k) (fun b st r h=>b7b k h) (fun n m hnm b st r h=>b1x (a0t hnm) (Nat.le_refl _) h) g6
 have hB:a1e E (evF E n) k f fn args=some r:=by
  unfold a1e at h ⊢
  rw [g1] at h ⊢
  simp only [g2] at h ⊢
  subst g3
  simp only at h ⊢
  split
  ·rename_i hc
   rw [if_pos hc] at h
   simp only [g5] at h ⊢
   rw [hn]
   rcases g7 with rfl | rfl <;> exact g8
  ·rename_i hc
   rw [if_neg hc] at h
   simp at h
 refine b2m.2 ⟨max n k+1,?_⟩
 simp only [evF,hx,hg,hf,hm,if_true]
 exact d2w (a0t (Nat.le_max_left n k)) (Nat.le_max_right n k) hB
theorem b9n {f:FuncId} {g:List Arg→Option Res} {args:List Arg} {r:Res} (hx:E.ext f=some g) (h:g args=some r):orc E f args=some r:=
 b2m.2 ⟨1,by simp only [evF,hx]; exact h⟩
theorem b8d (h:Able E) {f:FuncId} {args:List Arg} {r:Res} (ho:orc E f args=some r):Sound E f args r∧Enters E f:=by
 obtain ⟨n,hn⟩:=b2m.1 ho
 exact c0b h n f args r hn
end orc
def d0h:Value→Value→Bool
 | .int k a,.int l b=>decide (k=l∧a=b)
 | .bool a,.bool b=>a==b
 | .string a,.string b=>a.data.toList==b.data.toList
 | .pointer none,.pointer none=>true
 | .nilFunc,.nilFunc=>true
 | .nilIface,.nilIface=>true
 | _,_=>false
theorem h5n {a b:Value} (h:d0h a b=true):a=b:=by
 unfold d0h at h
 split at h
 ·have:=of_decide_eq_true h
  obtain ⟨h1,h2⟩:=this
  subst h1; subst h2; rfl
 ·simp only [beq_iff_eq] at h; subst h; rfl
 ·rename_i a b
  cases a with
  | mk a=>cases b with
   | mk b=>
    have:=eq_of_beq h
    simp only at this
    rw [Array.ext' this]
 ·rfl
 ·rfl
 ·rfl
 ·simp at h
def g2w (t:T) (u:Value):Bool:=
 match t with
 | .v x=>d0h x u && oneVal u
 | .own _ []=>(match u with | .slice none 0 0=>true | _=>false)
 | _=>false
def b3h:List T→List Value→Bool
 | [],[]=>true
 | t::ts,u::us=>g2w t u && b3h ts us
 | _,_=>false
theorem b8e {sz hp I}:∀ {ts:List T} {us:List Value},b3h ts us=true→okL sz hp I ts us []∧(∀ u,u∈us→oneVal u=true)∧ts.length=us.length
 | [],[],_=>⟨⟨rfl,rfl⟩,fun u hu=>by simp at hu,rfl⟩
 | t::ts,[],h=>by simp [b3h] at h
 | [],u::us,h=>by simp [b3h] at h
 | t::ts,u::us,h=>by
  simp only [b3h,Bool.and_eq_true] at h
  obtain ⟨h1,h2,h3⟩:=b8e (sz:=sz) (hp:=hp) (I:=I) h.2
  have h4:okV sz hp I t u []∧oneVal u=true:=by
   have hz:=h.1
   unfold g2w at hz
   split at hz
   ·simp only [Bool.and_eq_true] at hz
    have:=h5n hz.1
    subst this
    exact ⟨⟨rfl,rfl⟩,hz.2⟩
   ·split at hz
    ·exact ⟨.inl ⟨rfl,rfl,none,rfl⟩,rfl⟩
    ·simp at hz
   ·simp at hz
  refine ⟨⟨u,us,[],[],rfl,rfl,h4.1,h1⟩,fun v hv=>?_,by simp [h3]⟩
  rcases List.mem_cons.1 hv with rfl | hv
  ·exact h4.2
  ·exact h2 v hv
def a7z (P:Program):List Field→List (Nat × Nat)→List TypeId→Bool
 | [],[],[]=>true
 | f::fs,(o,s)::is,t::ts=>f.offset==o && f.type==t && (match P.info? f.type with | some inf=>inf.size==s | none=>false) && a7z P fs is ts
 | _,_,_=>false
def d1g (P:Program) (known:TypeId→Bool) (t:TypeId) (i:TInfo):Bool:=
 (match P.info? t with
  | some inf=>inf.size==i.size && inf.bytes==i.bytes && (match inf.zero with | some z=>z.cells.size==i.size && b3h i.zero z.cells.toList | none=>false)
  | none=>false) &&
 (match P.underlying t with
  | some desc=>i.agg==(match desc with | .struct _ | .array _ _=>true | _=>false) && i.int==(match desc with | .int _=>true | _=>false) &&
   (match i.elem with | some e=>(match desc with | .slice e'=>e==e' && known e | _=>false) | none=>true) &&
   (match desc with | .struct fs=>a7z P fs.toList i.fields i.ftys | _=>i.fields.isEmpty && i.ftys.isEmpty)
  | none=>false)
theorem b7c {P:Program}:∀ {fs:List Field} {is:List (Nat × Nat)} {ts:List TypeId},a7z P fs is ts=true→
  (∀ (k off s:Nat),is[k]?=some (off,s)→∃ (f:Field) (inf:TypeInfo),fs[k]?=some f∧f.offset=off∧P.info? f.type=some inf∧inf.size=s)∧
  (∀ (k ft:Nat),ts[k]?=some ft→∀ (f:Field),fs[k]?=some f→f.type=ft)∧
  (∀ w,(fs.mapM fun f=>do pure (f.offset,← sizeOf f.type):Sem (List (Nat × Nat))).run P w=.ok is w)
 | [],[],[],_=>⟨fun k off s h=>by simp at h,fun k ft h=>by simp at h,fun w=>by simp⟩
 | [],[],_::_,h=>by simp [a7z] at h
 | [],_::_,_,h=>by simp [a7z] at h
 | _::_,[],_,h=>by simp [a7z] at h
 | _::_,_::_,[],h=>by simp [a7z] at h
 | f::fs,(o,s)::is,t::ts,h=>by
  simp only [a7z,Bool.and_eq_true,beq_iff_eq] at h
  obtain ⟨⟨⟨h1,h2⟩,h3⟩,h4⟩:=h
  obtain ⟨g1,g2,g3⟩:=b7c h4
  split at h3
  ·rename_i inf hinf
   simp only [beq_iff_eq] at h3
   refine ⟨fun k off s' hk=>?_,fun k ft hk f' hf'=>?_,fun w=>?_⟩
   ·cases k with
    | zero=>
     simp only [List.getElem?_cons_zero,Option.some.injEq,Prod.mk.injEq] at hk
     obtain ⟨rfl,rfl⟩:=hk
     exact ⟨f,inf,by simp,h1,hinf,h3⟩
    | succ k=>
     simp only [List.getElem?_cons_succ] at hk
     obtain ⟨f',inf',q⟩:=g1 k off s' hk
     exact ⟨f',inf',by simpa using q⟩
   ·cases k with
    | zero=>
     simp only [List.getElem?_cons_zero,Option.some.injEq] at hk hf'
     subst hk; subst hf'; exact h2
    | succ k=>
     simp only [List.getElem?_cons_succ] at hk hf'
     exact g2 k ft hk f' hf'
   ·have hs:(sizeOf f.type).run P w=.ok s w:=by simp [sizeOf,a4f hinf,h3]
    have hg:=g3 w
    simp only [List.mapM_cons,Sem.run_bind,hs,Result.andThen_ok,Sem.run_pure,hg,h1]
  ·simp at h3
theorem i2n {E:Env} {t:TypeId} {i:TInfo} {known:TypeId→Bool} (hk:∀ e,known e=true→∃ ie,E.ti e=some ie) (h:d1g E.P known t i=true):TOk E t i:=by
 unfold d1g at h
 simp only [Bool.and_eq_true] at h
 obtain ⟨h1,h2⟩:=h
 split at h1
 ·rename_i inf hinf
  split at h2
  ·rename_i desc hd
   simp only [Bool.and_eq_true,beq_iff_eq] at h1 h2
   obtain ⟨⟨a1,a2⟩,a3⟩:=h1
   obtain ⟨⟨⟨b1,b2⟩,b3⟩,b4⟩:=h2
   have fields:i.fields≠[]∨i.ftys≠[]→∃ fs,desc=.struct fs∧a7z E.P fs.toList i.fields i.ftys=true:=fun hne=>by
    split at b4
    ·rename_i fs
     exact ⟨fs,rfl,b4⟩
    ·simp only [Bool.and_eq_true,List.isEmpty_iff] at b4
     rcases hne with h | h
     ·exact absurd b4.1 h
     ·exact absurd b4.2 h
   split at a3
   ·rename_i zv hz
    simp only [Bool.and_eq_true,beq_iff_eq] at a3
    refine ⟨⟨inf,zv,hinf,a1,a2,hz,a3.1,?_,fun h I=>(b8e a3.2).1,(b8e (sz:=szOf E) (hp:=#[]) (I:=fun _=>True) a3.2).2.1⟩,⟨desc,hd,b1⟩,⟨desc,hd,b2⟩,fun e he=>?_,fun e he=>?_,fun k off s hf=>?_,fun hne=>?_,fun k ft hft fs f hfs hf=>?_⟩
    ·have:=(b8e (sz:=szOf E) (hp:=#[]) (I:=fun _=>True) a3.2).2.2
     rw [this,Array.length_toList]; exact a3.1
    ·rw [he] at b3
     simp only at b3
     split at b3
     ·rename_i e'
      simp only [Bool.and_eq_true,beq_iff_eq] at b3
      rw [hd,b3.1]
     ·simp at b3
    ·rw [he] at b3
     simp only at b3
     split at b3
     ·simp only [Bool.and_eq_true] at b3
      exact hk e b3.2
     ·simp at b3
    ·obtain ⟨fs,rfl,hfb⟩:=fields (.inl (fun h=>by rw [h] at hf; simp at hf))
     obtain ⟨f,inf',q1,q2,q3,q4⟩:=(b7c hfb).1 k off s hf
     exact ⟨fs,f,inf',hd,by simpa using q1,q2,q3,q4⟩
    ·obtain ⟨fs,rfl,hfb⟩:=fields (.inl hne)
     refine ⟨fs,hd,fun w=>?_⟩
     have:=(b7c hfb).2.2 w
     rw [Array.mapM_eq_mapM_toList]
     show ((fs.toList.mapM fun f=>do pure (f.offset,← sizeOf f.type):Sem (List (Nat × Nat))) >>= fun l=>pure l.toArray).run E.P w=_
     rw [Sem.run_bind,this]
     rfl
    ·obtain ⟨fs',rfl,hfb⟩:=fields (.inr (fun h=>by rw [h] at hft; simp at hft))
     rw [hd] at hfs
     simp only [Option.some.injEq,TypeDesc.struct.injEq] at hfs
     subst hfs
     exact (b7c hfb).2.1 k ft hft f (by simpa using hf)
   ·simp at a3
  ·simp at h2
 ·simp at h1
def i5r (P:Program) (tab:List (Nat × TInfo)):Bool:=tab.all fun p=>d1g P (fun e=>(lk tab e).isSome) p.1 p.2
theorem i2o {E:Env} {tab:List (Nat × TInfo)} (ht:E.ti=lk tab) (h:i5r E.P tab=true):TiOk E:=by
 intro t i hi
 rw [ht] at hi
 have:=List.all_eq_true.1 h (t,i) (b6b hi)
 exact i2n (fun e he=>by rw [ht]; exact Option.isSome_iff_exists.1 he) this
def i5s (E:Env) (fs:List Nat):Bool:=fs.all fun f=>goodFn E f
def a8g:Code→List Code
 | .loop c=>c::a8g c
 | .seq a b=>a8g a++a8g b
 | .cond _ a b=>a8g a++a8g b
 | .block _ c=>a8g c
 | _=>[]
def A8 (f:Func) (n:Nat):Code:=
 match f.body with
 | some c=>((a8g c)[n]?).getD .skip
 | none=>.skip
section
variable {E:Env} {call:FuncId→List Arg→Option Res} {me:FuncId}
theorem C1 {k:Nat} {c:Code} {st st1:St} {r:Option (Ex × St)} (h:C0 E call me (A6 E call me k) c st=some (.normal,st1)) (h2:A6 E call me k c st1=r):
  A6 E call me (k+1) c st=r:=by simp only [A6,h,h2]
theorem D3 {k:Nat} {c:Code} {st st1:St} {x:Ex} (h:C0 E call me (A6 E call me k) c st=some (x,st1)) (hx:x≠.normal):
  A6 E call me (k+1) c st=some (x,st1):=by
 simp only [A6,h]
 cases x with
 | normal=>exact absurd rfl hx
 | _=>rfl
end
theorem C6 {α:Type} {all rest:List α} {i:Nat} {c:α} (h:all.drop i=c::rest):∃ h:i < all.length,all[i]=c∧all.drop (i+1)=rest:=by
 have hi:i < all.length:=by
  rcases Nat.lt_or_ge i all.length with h' | h'
  ·exact h'
  ·rw [List.drop_eq_nil_of_le h'] at h; simp at h
 refine ⟨hi,?_,?_⟩
 ·have:=List.getElem?_drop (xs:=all) (i:=i) (j:=0)
  rw [h] at this
  simp [hi] at this
  exact this.symm
 ·rw [← List.tail_drop,h]; rfl
theorem A5 {n:Int} (h1:-9223372036854775808≤n) (h2:n < 9223372036854775808):IntKind.i64.wrap n=n:=by
 simp [IntKind.wrap,IntKind.bits,IntKind.signed]
 omega
theorem a3p {α:Type} {f g:α→List T} (h:∀ a,O5 (f a)=g a):∀ (l:List α),L5 (l.map f)=l.map g
 | []=>rfl
 | a::l=>by simp only [List.map_cons,L5,h a,a3p h l]
section ite
variable {c:Prop} [Decidable c]
theorem g2x (x y:Value):(if c then T.v x else T.v y)=T.v (if c then x else y):=by split <;> rfl
theorem e3n (k:IntKind) (a b:Int):(if c then Value.int k a else Value.int k b)=Value.int k (if c then a else b):=by split <;> rfl
theorem d8r {α:Type} (a b:α):(if c then some a else some b)=some (if c then a else b):=by split <;> rfl
end ite
def orB (a b:Bool):Bool:=a || b
def A1 (a b:Bool):Bool:=a && b
def A0 (a:Bool):Bool:=!a
section gif
variable {α:Type}
theorem g1v (b:Bool):orB true b=true:=rfl
theorem g1w (b:Bool):orB false b=b:=by cases b <;> rfl
theorem a9h (b:Bool):A1 true b=b:=by cases b <;> rfl
theorem b5s (b:Bool):A1 false b=false:=rfl
theorem g1x (b:Bool):orB b true=true:=by cases b <;> rfl
theorem b6f (b:Bool):orB b false=b:=by cases b <;> rfl
theorem f7g (b:Bool):A1 b true=b:=by cases b <;> rfl
theorem f7h (b:Bool):A1 b false=false:=by cases b <;> rfl
theorem c0c:A0 true=false:=rfl
theorem c0d:A0 false=true:=rfl
theorem d8s (b:Bool):A0 (A0 b)=b:=by cases b <;> rfl
theorem g2y (x y:α):gif true x y=x:=rfl
theorem g2z (x y:α):gif false x y=y:=rfl
theorem e3o (b:Bool) (x:α):gif b x x=x:=by cases b <;> rfl
theorem f7i (p q:Bool) (x y:α):gif (A1 p q) x y=gif p (gif q x y) y:=by cases p <;> cases q <;> rfl
theorem e3p (b:Bool) (x y:α):gif b (some x) (some y)=some (gif b x y):=by cases b <;> rfl
theorem f7j (b:Bool) (v v':T) (r r':Option Root) (s s':List CSet):gif b (⟨v,r,s⟩:Eff) ⟨v',r',s'⟩=⟨gif b v v',gif b r r',gif b s s'⟩:=by cases b <;> rfl
theorem g3a (b:Bool) (x y:Value):gif b (T.v x) (T.v y)=T.v (gif b x y):=by cases b <;> rfl
theorem M0 {b b':Bool} {x x' y y':α} (h:b=b') (h1:b'=true→x=x') (h2:b'=false→y=y'):gif b x y=gif b' x' y':=by
 subst h
 cases b
 ·exact h2 rfl
 ·exact h1 rfl
def eqW (q w:Bool):Bool:=q==w
theorem g3b (q:Bool):eqW q true=q:=by cases q <;> rfl
theorem g3c (q:Bool):eqW q false=A0 q:=by cases q <;> rfl
theorem d4i (w b:Bool):b3p w (.bool b)=some (eqW b w):=rfl
theorem d2x (w:Bool):b3p w undef=some false:=rfl
theorem d8t (w p:Bool) (x:Value):b3p w (gif p x undef)=gif p (b3p w x) (some false):=by cases p <;> rfl
theorem g1y (p q:Bool):gif p q false=A1 p q:=by cases p <;> cases q <;> rfl
def pif {α:Type} (b:Bool) (x y:α):α:=if b=true then x else y
theorem g3d (x y:α):pif true x y=x:=rfl
theorem g3e (x y:α):pif false x y=y:=rfl
theorem f7k (t:Bool) (x y:Value):d0d t (T.v x) (T.v y)=T.v (pif t x y):=by cases t <;> rfl
theorem f7l (p q:Bool):pif p (Value.bool true) (gif (A0 p) (Value.bool q) undef)=Value.bool (orB p q):=by cases p <;> rfl
theorem e3q (p q:Bool):pif (A0 p) (Value.bool true) (gif p (Value.bool q) undef)=Value.bool (orB (A0 p) q):=by cases p <;> rfl
theorem d8u (p r q:Bool):pif (A0 (A1 p r)) (Value.bool true) (gif p (gif r (Value.bool q) undef) undef)=Value.bool (orB (A0 (A1 p r)) q):=by cases p <;> cases r <;> rfl
theorem e3r (p q:Bool):pif p (gif p (Value.bool q) undef) (Value.bool false)=Value.bool (A1 p q):=by cases p <;> rfl
theorem d8v (p r q:Bool):pif (A1 p r) (gif p (gif r (Value.bool q) undef) undef) (Value.bool false)=Value.bool (A1 (A1 p r) q):=by cases p <;> cases r <;> rfl
theorem d8w (p r s q:Bool):pif (A1 (A1 p r) s) (gif p (gif r (gif s (Value.bool q) undef) undef) undef) (Value.bool false)=Value.bool (A1 (A1 (A1 p r) s) q):=by cases p <;> cases r <;> cases s <;> rfl
theorem d8x (p r s t q:Bool):pif (A1 (A1 (A1 p r) s) t) (gif p (gif r (gif s (gif t (Value.bool q) undef) undef) undef) undef) (Value.bool false)=Value.bool (A1 (A1 (A1 (A1 p r) s) t) q):=by cases p <;> cases r <;> cases s <;> cases t <;> rfl
theorem e3s (p q:Bool):pif p (Value.bool true) (Value.bool q)=Value.bool (orB p q):=by cases p <;> rfl
theorem d8y (p q:Bool):pif p (Value.bool q) (Value.bool false)=Value.bool (A1 p q):=by cases p <;> rfl
end gif
section code
variable (E:Env) (call:FuncId→List Arg→Option Res) (me:FuncId) (lp:Code→St→Option (Ex × St))
def a6d (b:Code) (r:Option (Ex × St)):Option (Ex × St):=
 match r with
 | some (.normal,st)=>C0 E call me lp b st
 | r=>r
def a6f (id:Nat) (r:Option (Ex × St)):Option (Ex × St):=
 match r with
 | some (.exit i,st)=>some (if i=id then .normal else .exit i,st)
 | r=>r
def a8s (f:FuncId) (fn:Func) (args:List Arg) (r:Option (Ex × St)):Option Res:=
 match r with
 | some (.normal,st)=>a4l E f fn args st
 | some (.ret,st)=>a4l E f fn args st
 | _=>none
theorem e3t (a b:Code) (st:St):C0 E call me lp (.seq a b) st=a6d E call me lp b (C0 E call me lp a st):=rfl
theorem d6g (id:Nat) (c:Code) (st:St):C0 E call me lp (.block id c) st=a6f id (C0 E call me lp c st):=rfl
theorem d8z (st:St):C0 E call me lp .skip st=some (.normal,st):=rfl
theorem e3u (st:St):C0 E call me lp .ret st=some (.ret,st):=rfl
theorem d9a (id:Nat) (st:St):C0 E call me lp (.exit id) st=some (.exit id,st):=rfl
theorem d9b (c:Code) (st:St):C0 E call me lp (.loop c) st=lp c st:=rfl
theorem d9c (c:Operand) (a b:Code) (st:St):C0 E call me lp (.cond c a b) st=match St.val st.fr c with
  | some (.v (.bool t))=>if t=true then C0 E call me lp a st else C0 E call me lp b st
  | _=>none:=rfl
theorem d4j (id:Nat) (ops:Array Oper) (dr:Bool) (st:St):C0 E call me lp (.region id ops dr) st=match a2v E call me id ops.toList dr st with | some st=>some (.normal,st) | none=>none:=rfl
theorem d2y (b:Code) (st:St):a6d E call me lp b (some (.normal,st))=C0 E call me lp b st:=rfl
theorem d9d (b:Code) (st:St):a6d E call me lp b (some (.ret,st))=some (.ret,st):=rfl
theorem d6h (b:Code) (i:Nat) (st:St):a6d E call me lp b (some (.exit i,st))=some (.exit i,st):=rfl
theorem d6i (b:Code):a6d E call me lp b none=none:=rfl
theorem d4k (id:Nat) (st:St):a6f id (some (.normal,st))=some (.normal,st):=rfl
theorem e3v (id:Nat) (st:St):a6f id (some (.ret,st))=some (.ret,st):=rfl
theorem d9e (id i:Nat) (st:St):a6f id (some (.exit i,st))=some (if i=id then .normal else .exit i,st):=rfl
theorem d9f (id:Nat):a6f id none=none:=rfl
theorem d4l (f:FuncId) (fn:Func) (args:List Arg) (st:St):a8s E f fn args (some (.normal,st))=a4l E f fn args st:=rfl
theorem e3w (f:FuncId) (fn:Func) (args:List Arg) (st:St):a8s E f fn args (some (.ret,st))=a4l E f fn args st:=rfl
theorem f7m (n:Nat) (f:FuncId) (fn:Func) (args:List Arg):a3v E call n f fn args=match fn.body with
  | none=>none
  | some c=>a8s E f fn args (C0 E call f (A6 E call f n) c ⟨max fn.ntmps args.length,W3 0 args,G7 0 args,2⟩):=rfl
variable {c:Prop} [Decidable c]
theorem d9g (b:Code) (x y:Option (Ex × St)):a6d E call me lp b (if c then x else y)=if c then a6d E call me lp b x else a6d E call me lp b y:=by split <;> rfl
theorem d6j (b:Code) (x y:Ex × St):a6d E call me lp b (some (if c then x else y))=if c then a6d E call me lp b (some x) else a6d E call me lp b (some y):=by split <;> rfl
theorem e3x (id:Nat) (x y:Option (Ex × St)):a6f id (if c then x else y)=if c then a6f id x else a6f id y:=by split <;> rfl
theorem d9h (id:Nat) (x y:Ex × St):a6f id (some (if c then x else y))=if c then a6f id (some x) else a6f id (some y):=by split <;> rfl
theorem e3y (f:FuncId) (fn:Func) (args:List Arg) (x y:Option (Ex × St)):a8s E f fn args (if c then x else y)=if c then a8s E f fn args x else a8s E f fn args y:=by split <;> rfl
theorem d9i (f:FuncId) (fn:Func) (args:List Arg) (x y:Ex × St):a8s E f fn args (some (if c then x else y))=if c then a8s E f fn args (some x) else a8s E f fn args (some y):=by split <;> rfl
def a7c (k:Nat) (b:Code) (r:Option (Ex × St)):Option (Ex × St):=
 match r with
 | some (.normal,st)=>A6 E call me k b st
 | r=>r
theorem C3 (k:Nat) (b:Code) (st:St):A6 E call me (k+1) b st=a7c E call me k b (C0 E call me (A6 E call me k) b st):=rfl
theorem d2z (k:Nat) (b:Code) (st:St):a7c E call me k b (some (.normal,st))=A6 E call me k b st:=rfl
theorem d9j (k:Nat) (b:Code) (st:St):a7c E call me k b (some (.ret,st))=some (.ret,st):=rfl
theorem d6k (k:Nat) (b:Code) (i:Nat) (st:St):a7c E call me k b (some (.exit i,st))=some (.exit i,st):=rfl
theorem d9k (k:Nat) (b:Code) (x y:Option (Ex × St)):a7c E call me k b (if c then x else y)=if c then a7c E call me k b x else a7c E call me k b y:=by split <;> rfl
theorem d6l (k:Nat) (b:Code) (x y:Ex × St):a7c E call me k b (some (if c then x else y))=if c then a7c E call me k b (some x) else a7c E call me k b (some y):=by split <;> rfl
theorem f7n (t t':T) (o o':List (Nat × List T)) (b b':Bool):(if c then (⟨t,o,b⟩:Res) else ⟨t',o',b'⟩)=⟨if c then t else t',if c then o else o',if c then b else b'⟩:=by split <;> rfl
end code
open Go Go.RowKit
def a9s (P:Program):List Field→Nat→Nat→Bool
 | [],a,tot=>a==tot
 | f::fs,a,tot=>f.offset==a && a9s P fs (a+P.cellsOf f.type) tot
def a3x (sz:TypeId→Nat) (P:Program):Nat→TypeId→Bool
 | 0,_=>false
 | n+1,t=>
  match P.underlying t with
  | some .bool | some (.int _) | some .string=>true
  | some (.slice e)=>sz e==P.cellsOf e && P.cellsOf e != 0 && P.bytesOf e != 0 && a3x sz P n e
  | some (.struct fs)=>a9s P fs.toList 0 (P.cellsOf t) && fs.toList.all fun f=>a3x sz P n f.type
  | _=>false
def c8r (Q:TypeId→List T→Prop):List Field→List T→Prop
 | [],ts=>ts=[]
 | f::fs,ts=>∃ c r,ts=c++r∧Q f.type c∧c8r Q fs r
def K4 (P:Program):Nat→TypeId→List T→Prop
 | 0,_,_=>False
 | n+1,t,ts=>
  match P.underlying t with
  | some .bool=>∃ b,ts=[.v (.bool b)]
  | some (.int k)=>∃ x,ts=[.v (.int k x)]∧(Lit.int k x).wf=true
  | some .string=>∃ s:ByteArray,ts=[.v (.string s)]∧s.size≤reachBytes
  | some (.slice e)=>∃ es,ts=[.sl e es]∧es.length≤reachBytes∧∀ c,c∈es→K4 P n e c
  | some (.struct fs)=>c8r (K4 P n) fs.toList ts
  | _=>False
theorem e3z {sz h I}:∀ {c d:List T} {us vs:List Value},okL sz h I c us []→okL sz h I d vs []→okL sz h I (c++d) (us++vs) []
 | [],d,us,vs,h1,h2=>by
  simp only [okL] at h1
  rw [h1.1]; simpa using h2
 | t::c,d,us,vs,h1,h2=>by
  simp only [okL] at h1
  obtain ⟨u,us',f1,f2,rfl,hf,h3,h4⟩:=h1
  have e:=List.append_eq_nil_iff.1 hf.symm
  obtain ⟨rfl,rfl⟩:=e
  exact ⟨u,us'++vs,[],[],rfl,rfl,h3,e3z h4 h2⟩
theorem f7o {sz h I} {s:Nat} {Q:List T→Prop}:∀ (m:Nat) (l:List Value),
  (∀ i,i < m→∃ c,Q c∧c.length=s∧okL sz h I c ((l.drop (i*s)).take s) [])→∃ es:List (List T),es.length=m∧(∀ c,c∈es→Q c)∧B3 sz h I s es l []
 | 0,l,_=>⟨[],rfl,fun c hc=>by simp at hc,rfl⟩
 | m+1,l,hx=>by
  obtain ⟨c,q,hl,hc⟩:=hx 0 (by omega)
  obtain ⟨es,h1,h2,h3⟩:=f7o (Q:=Q) m (l.drop s) (fun i hi=>by
   obtain ⟨c,q,hl,hc⟩:=hx (i+1) (by omega)
   refine ⟨c,q,hl,?_⟩
   rw [List.drop_drop]
   have e:s+i*s=(i+1)*s:=by rw [Nat.add_mul]; omega
   rw [e]; exact hc)
  refine ⟨c::es,by simp [h1],fun d hd=>?_,[],[],hl,rfl,by simpa using hc,h3⟩
  rcases List.mem_cons.1 hd with rfl | hd
  ·exact q
  ·exact h2 d hd
section
variable {H:Type} {enc:TypeId × Value→H} {P:Program} {w:World} {base:Nat} {spare:Nat→Bool} {held:Bool} {sz:TypeId→Nat} {I:Nat→Prop}
theorem d4m {Q:TypeId→List T→Prop} {tot:Nat} {cs:List Value}:∀ (fs:List Field) (a:Nat),a9s P fs a tot=true→cs.length=tot→a≤tot→
  (∀ f,f∈fs→∃ ts,Q f.type ts∧okL sz w.heap I ts ((cs.drop f.offset).take (P.cellsOf f.type)) [])→∃ ts,c8r Q fs ts∧okL sz w.heap I ts (cs.drop a) []
 | [],a,ht,hl,ha,hx=>by
  simp only [a9s,beq_iff_eq] at ht
  refine ⟨[],rfl,?_⟩
  rw [List.drop_eq_nil_of_le (by omega)]; exact ⟨rfl,rfl⟩
 | f::fs,a,ht,hl,ha,hx=>by
  simp only [a9s,Bool.and_eq_true,beq_iff_eq] at ht
  obtain ⟨h1,h2⟩:=ht
  obtain ⟨c,q1,q2⟩:=hx f (by simp)
  have hle:a+P.cellsOf f.type≤tot:=by
   clear hx q1 q2
   have:∀ (fs:List Field) (a:Nat),a9s P fs a tot=true→a≤tot:=by
    intro fs
    induction fs with
    | nil=>intro a h; simp [a9s] at h; omega
    | cons g gs ih=>
     intro a h
     simp only [a9s,Bool.and_eq_true] at h
     have:=ih _ h.2; omega
   exact this fs _ h2
  obtain ⟨r,q3,q4⟩:=d4m fs (a+P.cellsOf f.type) h2 hl hle (fun g hg=>hx g (by simp [hg]))
  refine ⟨c++r,⟨c,r,rfl,q1,q3⟩,?_⟩
  have e:cs.drop a=(cs.drop f.offset).take (P.cellsOf f.type)++cs.drop (a+P.cellsOf f.type):=by
   rw [h1,← List.drop_drop,List.take_append_drop]
  rw [e]; exact e3z q2 q4
theorem d1o {e:TypeId} {k:Nat} {d:DataW H} (hk:k∈d.weights P e):∀ {l:List (DataW H)},d∈l→k∈DataW.weightsAll P e l
 | [],h=>by simp at h
 | x::l,h=>by
  unfold DataW.weightsAll
  rcases List.mem_cons.1 h with rfl | h
  ·exact List.mem_append_left _ hk
  ·exact List.mem_append_right _ (d1o hk h)
theorem b0b {k:Nat} {d:DataW H} {t:TypeId} (hk:k∈d.weights P t):∀ {ts:List TypeId} {l:List (DataW H)} {i:Nat},ts[i]?=some t→l[i]?=some d→k∈DataW.weightsEach P ts l
 | [],l,i,h,_=>by simp at h
 | _::_,[],i,_,h=>by simp at h
 | t'::ts,d'::l,0,h1,h2=>by
  simp at h1 h2
  subst h1; subst h2
  unfold DataW.weightsEach
  exact List.mem_append_left _ hk
 | t'::ts,d'::l,i+1,h1,h2=>by
  unfold DataW.weightsEach
  exact List.mem_append_right _ (b0b hk (by simpa using h1) (by simpa using h2))
theorem b9o (hI:∀ b,b < w.heap.size→I b):∀ (n:Nat) (fuel:Nat) (t:TypeId) (cs:List Value) (x:DataW H × List MemPlace),a3x sz P n t=true→
  DataW.trod enc P w base spare held fuel t cs=some x→(∀ k,k∈x.1.weights P t→k≤reachBytes)→∃ ts,K4 P n t ts∧okL sz w.heap I ts cs []
 | 0,_,_,_,_,h,_,_=>by simp [a3x] at h
 | n+1,fuel,t,cs,x,hp,h,hwt=>by
  unfold a3x at hp
  unfold K4
  split at hp
  ·rename_i hu
   obtain ⟨b,rfl,_⟩:=DataW.trod_bool hu h
   exact ⟨_,⟨b,rfl⟩,⟨_,[],[],[],rfl,rfl,⟨rfl,rfl⟩,⟨rfl,rfl⟩⟩⟩
  ·rename_i hu
   obtain ⟨b,rfl,_,hw⟩:=DataW.trod_int hu h
   exact ⟨_,⟨b,rfl,hw⟩,⟨_,[],[],[],rfl,rfl,⟨rfl,rfl⟩,⟨rfl,rfl⟩⟩⟩
  ·rename_i hu
   obtain ⟨b,rfl,rfl,hw⟩:=DataW.trod_string hu h
   have hw:=hwt b.data.toList.length (by simp [DataW.weights])
   exact ⟨_,⟨b,rfl,hw⟩,⟨_,[],[],[],rfl,rfl,⟨rfl,rfl⟩,⟨rfl,rfl⟩⟩⟩
  ·rename_i e hu
   simp only [Bool.and_eq_true,beq_iff_eq,bne_iff_ne] at hp
   obtain ⟨⟨⟨p1,p2⟩,p4⟩,p3⟩:=hp
   rcases DataW.trod_slice hu h with ⟨rfl,_⟩ | ⟨a,len,cap,elems,rest,m,_,rfl,rfl,hb,hl,hm,hlen,hel,_,_⟩
   ·exact ⟨[.sl e []],⟨[],rfl,by simp,fun c hc=>by simp at hc⟩,⟨_,[],[],[],rfl,rfl,⟨rfl,none,0,rfl,Nat.le_refl _,.inl rfl⟩,⟨rfl,rfl⟩⟩⟩
   ·rcases Nat.eq_zero_or_pos len with h0 | h0
    ·subst h0
     exact ⟨[.sl e []],⟨[],rfl,by simp,fun c hc=>by simp at hc⟩,⟨_,[],[],[],rfl,rfl,⟨rfl,some a,cap,rfl,by simp,.inl rfl⟩,⟨rfl,rfl⟩⟩⟩
    ·have hwl:len≤reachBytes:=by
      have:=hwt ((elems.length+rest.length)*P.bytesOf e) (by simp [DataW.weights,hu])
      have h1:elems.length+rest.length≤(elems.length+rest.length)*P.bytesOf e:=Nat.le_mul_of_pos_right _ (by omega)
      omega
     have hwe:∀ y,y∈elems→∀ k,k∈y.1.weights P e→k≤reachBytes:=fun y hy k hk=>hwt k (by
      have:k∈DataW.weightsAll P e (elems.map (·.1)):=d1o hk (List.mem_map_of_mem hy)
      simp [DataW.weights,hu,this])
     have hcell:∀ i,i < len→∃ cs',w.cells? base (a.add (i*P.cellsOf e)) (P.cellsOf e)=some cs'∧∃ y,DataW.trod enc P w base spare held m e cs'=some y∧y∈elems:=fun i hi=>by
      have hx:=hel i hi
      have hs:elems[i]?=some elems[i]:=by simp [hlen,hi]
      rw [hs] at hx
      cases hc:w.cells? base (a.add (i*P.cellsOf e)) (P.cellsOf e) with
      | none=>rw [hc] at hx; simp at hx
      | some cs'=>rw [hc] at hx; exact ⟨cs',rfl,_,hx,List.getElem_mem _⟩
     obtain ⟨cs0,hc0,_⟩:=hcell 0 h0
     obtain ⟨_,hl0,hg0⟩:=World.cells?_some hc0
     have hg:=hg0 0 (by omega)
     have hadd:(a.add (0*P.cellsOf e)).add 0=a:=by simp [Addr.add]
     rw [hadd] at hg
     obtain ⟨b,o,spot⟩:=a
     have hcs0:cs0[0]?=some cs0[0]:=by simp
     rw [hcs0] at hg
     unfold World.cell? at hg
     cases hblk:w.heap[b]? with
     | none=>simp only at hg; rw [hblk] at hg; simp at hg
     | some ob=>
      cases ob with
      | cells arr el fz=>
       simp only at hg
       rw [hblk] at hg
       simp only at hg
       split at hg
       ·simp at hg
       ·rename_i hsp
        have hsp:spot=none:=by cases spot <;> simp_all
        subst hsp
        have hbs:b < w.heap.size:=(Array.getElem?_eq_some_iff.1 hblk).1
        have hcs:∀ i,i < len→∀ cs',w.cells? base ((⟨b,o,none⟩:Addr).add (i*P.cellsOf e)) (P.cellsOf e)=some cs'→cs'=(arr.toList.drop (o+i*P.cellsOf e)).take (P.cellsOf e):=fun i hi cs' hc=>by
         obtain ⟨_,hl',hg'⟩:=World.cells?_some hc
         have hadd:∀ j,((⟨b,o,none⟩:Addr).add (i*P.cellsOf e)).add j=⟨b,o+i*P.cellsOf e+j,none⟩:=fun j=>by
          unfold Addr.add
          by_cases e1:i*P.cellsOf e=0 <;> by_cases e2:j=0 <;> simp [e1,e2]
         have hget:∀ j,j < P.cellsOf e→arr.toList[o+i*P.cellsOf e+j]?=cs'[j]?:=fun j hj=>by
          have:=hg' j hj
          rw [hadd j] at this
          unfold World.cell? at this
          rw [hblk] at this
          simpa using this
         apply List.ext_getElem?
         intro j
         rw [List.getElem?_take,List.getElem?_drop]
         split
         ·rename_i hj; exact (hget j hj).symm
         ·rw [List.getElem?_eq_none]; omega
        obtain ⟨es,g1,g2,g3⟩:=f7o (sz:=sz) (h:=w.heap) (I:=I) (s:=P.cellsOf e) (Q:=K4 P n e) len (arr.toList.drop o) (fun i hi=>by
         obtain ⟨cs',hc,y,hy,hye⟩:=hcell i hi
         obtain ⟨ts,q1,q2⟩:=b9o hI n m e cs' y p3 hy (hwe y hye)
         have hl':=(World.cells?_some hc).2.1
         have e1:=hcs i hi cs' hc
         refine ⟨ts,q1,by rw [← H4 q2]; exact hl',?_⟩
         rw [List.drop_drop,← e1]; exact q2)
        refine ⟨[.sl e es],⟨es,rfl,by omega,g2⟩,⟨_,[],[],[],rfl,rfl,⟨rfl,some ⟨b,o,none⟩,cap,by rw [g1],by omega,.inr ⟨b,o,arr,el,fz,rfl,hI b hbs,hblk,?_⟩⟩,⟨rfl,rfl⟩⟩⟩
        rw [p1]; exact g3
      | _=>simp only at hg; rw [hblk] at hg; simp at hg
  ·rename_i fs hu
   simp only [Bool.and_eq_true,List.all_eq_true] at hp
   obtain ⟨p1,p2⟩:=hp
   obtain ⟨xs,m,_,rfl,hl,hxs,hf⟩:=DataW.trod_struct hu h
   obtain ⟨ts,q1,q2⟩:=d4m (P:=P) (w:=w) (sz:=sz) (I:=I) (Q:=K4 P n) fs.toList 0 p1 hl (by omega) (fun f hf'=>by
    obtain ⟨i,hi,he⟩:=List.getElem_of_mem hf'
    have hi':i < fs.size:=by simpa using hi
    have h1:fs[i]?=some f:=by rw [← he]; simp
    have h2:=hf i f h1
    have h3:xs[i]?=some xs[i]:=by simp
    rw [h3] at h2
    exact b9o hI n m f.type _ _ (p2 f hf') h2 fun k hk=>hwt k (by
     simp only [DataW.weights,hu]
     exact b0b hk (i:=i) (by simp [h1]) (by simp [h3])))
   exact ⟨ts,q1,by simpa using q2⟩
  ·simp at hp
end
theorem h5o {H:Type} {enc:TypeId × Value→H} {P:Program} {w:World} {base:Nat} {spare:Nat→Bool} {held:Bool} {sz:TypeId→Nat} {I:Nat→Prop} (hI:∀ b,b < w.heap.size→I b)
  {n:Nat} {t:TypeId} {v:Value} {d:DataW H} {ps:List MemPlace} (hp:a3x sz P n t=true) (h:DataW.Trod enc P w base spare held t v d ps) (hv:v.cells=#[v]) (hwt:∀ k,k∈d.weights P t→k≤reachBytes):
  ∃ ts,K4 P n t ts∧okL sz w.heap I ts [v] []:=by
 obtain ⟨fuel,hf⟩:=h
 rw [hv] at hf
 exact b9o hI n fuel t [v] _ hp hf hwt
end Go.TM
namespace Go.TM.Ft
open Go Go.TM Go.Proofs
def b1l (f:Nat):Option View:=none
theorem g9a {E:Env} (hP:E.P=Tryz.prog) (hs:szOf E 160=1):∀ f v,b1l f=some v→ViewOk E f v:=fun f v h=>by simp [b1l] at h
end Go.TM.Ft
