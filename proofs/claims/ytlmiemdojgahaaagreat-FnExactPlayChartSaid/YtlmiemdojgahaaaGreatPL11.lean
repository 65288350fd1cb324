/- What functions of the program come to, by the machine. -/
import Derived.Test.YtlmiemdojgahaaaGreatPL10
set_option linter.unusedSimpArgs false
set_option linter.unusedVariables false
namespace Go.TM.Ft
open Go Go.TM Go.Proofs
set_option maxRecDepth 20000
section
variable {l:List Step}
def dueK (l:List Step) (i:Nat):Prop:=kindOf l i=6∨kindOf l i=8
structure Late (l:List Step) (c c':Chart):Prop where
 now:c'.now=c.now
 dues:∀ i,c'.dues[i]?=c.dues[i]?∨c'.dues[i]?=some 0∨∃ y,c'.dues[i]?=some y∧c.now < y∧dueK l i
theorem Late.same {c c':Chart} (h1:c'.now=c.now) (h2:c'.dues=c.dues):Late l c c':=⟨h1,fun i=>.inl (by rw [h2])⟩
theorem Late.refl {c:Chart}:Late l c c:=.same rfl rfl
theorem Late.trans {a b c:Chart} (h:Late l a b) (h':Late l b c):Late l a c:=⟨h'.now.trans h.now,fun i=>by
 rcases h'.dues i with e | e | ⟨y,e1,e2,e3⟩
 ·rw [e]; exact h.dues i
 ·exact .inr (.inl e)
 ·exact .inr (.inr ⟨y,e1,by rw [← h.now]; exact e2,e3⟩)⟩
theorem Late.stop {c:Chart} (h:Inv l c) (st:Int):Late l c (stopC l st c):=⟨rfl,fun i=>by
 rcases Nat.lt_or_ge i l.length with hi | hi
 ·exact .inr (.inl (by simp [stopC,hi]))
 ·exact .inl (by have:=h.dues; rw [List.getElem?_eq_none (by simp [stopC]; omega),List.getElem?_eq_none (by omega)])⟩
theorem zap_at:∀ (ks xs:List Int) (i:Nat),(zap ks xs)[i]?=xs[i]?∨(zap ks xs)[i]?=some 0
 | [],xs,i=>.inl rfl
 | k::ks,xs,i=>by
  have e:zap (k::ks) xs=zap ks (xs.set k.toNat 0):=rfl
  rw [e]
  rcases zap_at ks (xs.set k.toNat 0) i with h | h
  ·rw [h,List.getElem?_set]
   split
   ·split
    ·exact .inr rfl
    ·rename_i h1 h2; subst h1; exact .inl (by rw [List.getElem?_eq_none (by omega)])
   ·exact .inl rfl
  ·exact .inr h
theorem zap_hit:∀ (ks xs:List Int) (i:Nat),(i:Int)∈ks→i < xs.length→(zap ks xs)[i]?=some 0
 | [],_,_,h,_=>by simp at h
 | k::ks,xs,i,h,hi=>by
  have e:zap (k::ks) xs=zap ks (xs.set k.toNat 0):=rfl
  rw [e]
  rcases List.mem_cons.1 h with h | h
  ·subst h
   rcases zap_at ks (xs.set i 0) i with h1 | h1
   ·simp only [Int.toNat_natCast]
    rw [h1,List.getElem?_set]; simp [hi]
   ·exact h1
  ·exact zap_hit ks _ i h (by simpa using hi)
theorem Late.idle {c:Chart} (ks:List Int):Late l c (idleC ks c):=⟨rfl,fun i=>by
 rcases zap_at ks c.dues i with h | h
 ·exact .inl h
 ·exact .inr (.inl h)⟩
theorem Late.due {c:Chart} {k:Nat} {y:Int} (h:c.now < y) (hk:dueK l k):Late l c { c with dues:=c.dues.set k y }:=⟨rfl,fun i=>by
 simp only [List.getElem?_set]
 split
 ·rename_i e; subst e
  split
  ·exact .inr (.inr ⟨y,rfl,h,hk⟩)
  ·exact .inl (by rw [List.getElem?_eq_none (by omega)])
 ·exact .inl rfl⟩
def GoL (l:List Step) (go:Bool→Nat→Chart→Option Chart):Prop:=∀ b k c c',Inv l c→k < l.length→go b k c=some c'→Inv l c'∧Late l c c'
theorem GoL.all (w:Wf l) {go} (g:GoL l go):∀ (ks:List Int) (c c':Chart),(∀ x,x∈ks→∃ a:Nat,x=a∧a < l.length)→Inv l c→goAll go ks c=some c'→Late l c c'
 | [],c,c',_,_,h=>by simp only [goAll,Option.some.injEq] at h; subst h; exact .refl
 | x::ks,c,c',hk,hI,h=>by
  obtain ⟨a,rfl,ha⟩:=hk x (by simp)
  unfold goAll at h
  rw [Int.toNat_natCast] at h
  cases q:go true a c with
  | none=>rw [q] at h; simp at h
  | some c1=>
   rw [q] at h
   obtain ⟨h1,h2⟩:=g true a c c1 hI ha q
   exact h2.trans (GoL.all w g ks c1 c' (fun x hx=>hk x (by simp [hx])) h1 h)
theorem GoL.ent (w:Wf l) {go} (g:GoL l go) {k:Nat} (hk:k < l.length) {c c':Chart} (hI:Inv l c) (h:entC go l k c=some c'):Late l c c':=by
 have ent:∀ {a:Nat} {c1:Chart},a < l.length→Inv l c1→Late l c c1→go true a c1=some c'→Late l c c':=fun ha h1 h2 h3=>h2.trans (g true _ _ _ h1 ha h3).2
 unfold entC at h
 split at h
 ·rename_i q
  obtain ⟨a,h1,h2,h3⟩:=w.kid0 hk (.inl (by simpa [eqI] using q))
  rw [h1,Int.toNat_natCast] at h
  exact ent h2 hI .refl h
 split at h
 ·exact GoL.all w g _ _ _ (fun x hx=>by obtain ⟨a,h1,h2,_⟩:=w.kid hx; exact ⟨a,h1,h2⟩) hI h
 split at h
 ·split at h
  ·simp only [Option.some.injEq] at h; subst h; exact .stop hI 3
  ·rename_i n1
   split at h
   ·simp only [Option.some.injEq] at h; subst h; exact .refl
   ·rename_i n2
    rcases choose_mem l c.vars (kidsM k 0 l) with hh | hh | hh
    ·exact absurd (by rw [hh]; rfl) n1
    ·exact absurd (by rw [hh]; rfl) n2
    ·obtain ⟨a,h1,h2,h3,_⟩:=w.kid hh
     rw [h1,Int.toNat_natCast] at h
     exact ent h2 hI .refl h
 split at h
 ·rename_i q
  have q:kindOf l k=8:=by simpa [eqI] using q
  have ha:=w.arg hk (.inr q)
  obtain ⟨a,h1,h2,h3⟩:=w.kid0 hk (.inr q)
  rw [h1,Int.toNat_natCast] at h
  exact ent h2 (hI.due k _) (.due (by omega) (.inr q)) h
 split at h
 ·rename_i q
  have q:kindOf l k=6:=by simpa [eqI] using q
  have ha:=w.arg hk (.inl q)
  simp only [Option.some.injEq] at h; subst h
  exact .due (by omega) (.inl q)
 split at h
 ·rename_i q
  split at h
  ·simp only [Option.some.injEq] at h; subst h; exact .stop hI 3
  ·rename_i v hv
   have q:kindOf l k=7:=by simpa [eqI] using q
   obtain ⟨okx,_⟩:=w.expr hk (by rw [← kindOf_at hk]; exact q)
   rw [show (l[k]).expr=exprOf l k by simp [exprOf,hk]] at okx
   have hI2:Inv l { c with vars:=c.vars.set (argOf l k).toNat v }:=hI.var _ (eval_good okx hv)
   exact (Late.same rfl rfl:Late l c { c with vars:=c.vars.set (argOf l k).toNat v }).trans (g false k _ _ hI2 hk h).2
 ·simp only [Option.some.injEq] at h; subst h; exact .refl
theorem GoL.ovr (w:Wf l) {go} (g:GoL l go) {k:Nat} (hk:k < l.length) {c c':Chart} (hI:Inv l c) (h:ovrC go l k c=some c'):Late l c c':=by
 unfold ovrC at h
 split at h
 ·simp only [Option.some.injEq] at h; subst h; exact .stop hI 2
 rename_i q0
 have hk0:0 < k:=by
  rcases Nat.eq_zero_or_pos k with e | e
  ·subst e; exact absurd rfl q0
  ·exact e
 obtain ⟨p,hp,hpk⟩:=w.par hk hk0
 have hpl:p < l.length:=by omega
 rw [hp,Int.toNat_natCast] at h
 have ovr:∀ {c1:Chart},Inv l c1→Late l c c1→go false p c1=some c'→Late l c c':=fun h1 h2 h3=>h2.trans (g false _ _ _ h1 hpl h3).2
 unfold ovrP at h
 split at h
 ·split at h
  ·rename_i q2
   have hmem:=w.kid_of hk hp
   obtain ⟨j,e1,e2,e3⟩:=idxI_found hmem
   have ej:(j:Int)+1=((j+1:Nat):Int):=by omega
   rw [e1,ej] at q2 h
   have hj:j+1 < (kidsM p 0 l).length:=by simp [ltI] at q2; omega
   obtain ⟨s,h1,h2,h3,h4⟩:=w.kid (szAt_mem hj)
   rw [h1,Int.toNat_natCast] at h
   exact (g true _ _ _ hI h2 h).2
  ·exact ovr hI .refl h
 split at h
 ·split at h
  ·simp only [Option.some.injEq] at h; subst h; exact .same rfl rfl
  ·exact ovr (hI.act k 2) (.same rfl rfl) h
 ·exact ovr hI .refl h
theorem goC_late (w:Wf l):∀ f,GoL l (goC l f)
 | 0=>fun b k c c' _ _ h=>by cases b <;> simp [goC] at h
 | f+1=>fun b k c c' hI hk h=>by
  refine ⟨?_,?_⟩
  ·have:=goC_ok w (f+1) b k c c' hI hk h
   exact this.2
  have ih:=goC_late w f
  cases b
  ·unfold goC at h
   exact (Late.idle (undsM l k)).trans (GoL.ovr w ih hk (hI.idle _) h)
  ·unfold goC at h
   split at h
   ·exact (Late.same rfl rfl:Late l c { c with acts:=c.acts.set k 1 }).trans (GoL.ent w ih hk (hI.act k 1) h)
   ·simp only [Option.some.injEq] at h; subst h; exact .refl
theorem goX_late (w:Wf l) (b:Bool) (k:Nat) (c:Chart) (hI:Inv l c) (hk:k < l.length):Late l c (goX l b k c):=(goC_late w 700 b k c _ hI hk (goX_eq w b k c hk)).2
theorem goX_inv (w:Wf l) (b:Bool) (k:Nat) (c:Chart) (hI:Inv l c) (hk:k < l.length):Inv l (goX l b k c):=(goC_late w 700 b k c _ hI hk (goX_eq w b k c hk)).1
theorem und_self (w:Wf l) {k:Nat} (hk:k < l.length):(k:Int)∈undsM l k:=by
 rw [← under_same w k hk]; simp
theorem over_late (w:Wf l) (k:Nat) (c:Chart) (hI:Inv l c) (hk:k < l.length):(goX l false k c).dues[k]?=some 0∨∃ y,(goX l false k c).dues[k]?=some y∧c.now < y:=by
 have h:=goX_eq w false k c hk
 generalize goX l false k c=c' at *
 unfold goC at h
 have h1:=GoL.ovr w (goC_late w 699) hk (hI.idle (undsM l k)) h
 have h2:(idleC (undsM l k) c).dues[k]?=some 0:=zap_hit _ _ _ (und_self w hk) (by rw [hI.dues]; exact hk)
 rcases h1.dues k with e | e | ⟨y,e1,e2,_⟩
 ·exact .inl (e.trans h2)
 ·exact .inl e
 ·exact .inr ⟨y,e1,e2⟩
def dueB (now:Int) (dues:List Int) (d x:Int):Bool:=andB (andB (notB (eqI x 0)) (leI x now)) (orB (ltI d 0) (ltI x (szAt dues d)))
def dueM (dues:List Int) (now:Int):Int:=foldI (fun (i:Nat) (d:Int) (x:Int)=>if dueB now dues d x=true then (i:Int) else d) 0 (-1) dues
def isDue (now x:Int):Bool:=andB (notB (eqI x 0)) (leI x now)
theorem dueM_fold (dues:List Int) (now:Int):∀ (r:List Int) (i:Nat) (d:Int),dues.drop i=r→(d=-1∨∃ k:Nat,d=k∧k < dues.length∧isDue now (szAt dues d)=true)→
  (∀ d',foldI (fun (i:Nat) (d:Int) (x:Int)=>if dueB now dues d x=true then (i:Int) else d) i d r=d'→d'=-1∨∃ k:Nat,d'=k∧k < dues.length∧isDue now (szAt dues d')=true)
 | [],i,d,_,h,d',e=>by simp only [foldI] at e; subst e; exact h
 | x::r,i,d,hr,h,d',e=>by
  obtain ⟨hi,hc,hr'⟩:=drop_cons hr
  simp only [foldI] at e
  refine dueM_fold dues now r (i+1) _ hr' ?_ d' e
  split
  ·rename_i q
   refine .inr ⟨i,rfl,hi,?_⟩
   rw [szAt_lt hi,hc]
   simp only [dueB,andB,Bool.and_eq_true] at q
   simp only [isDue,andB,Bool.and_eq_true]
   exact q.1
  ·exact h
theorem dueM_some (dues:List Int) (now:Int):dueM dues now=-1∨∃ k:Nat,dueM dues now=k∧k < dues.length∧isDue now (szAt dues k)=true:=by
 rcases dueM_fold dues now dues 0 (-1) rfl (.inl rfl) (dueM dues now) rfl with h | ⟨k,h1,h2,h3⟩
 ·exact .inl h
 ·exact .inr ⟨k,h1,h2,by rw [h1] at h3; exact h3⟩
def cnt (now:Int) (dues:List Int):Nat:=dues.countP (isDue now)
theorem cnt_lt {p:Int→Bool}:∀ {xs ys:List Int} {k:Nat},xs.length=ys.length→(∀ (i:Nat) (x y:Int),xs[i]?=some x→ys[i]?=some y→p y=true→p x=true)→
  (∃ x y,xs[k]?=some x∧ys[k]?=some y∧p x=true∧p y=false)→ys.countP p < xs.countP p
 | [],_,k,_,_,⟨x,y,h,_⟩=>by simp at h
 | x::xs,[],k,h,_,_=>by simp at h
 | x::xs,y::ys,0,h,h1,⟨x',y',e1,e2,e3,e4⟩=>by
  simp only [List.getElem?_cons_zero,Option.some.injEq] at e1 e2
  subst e1; subst e2
  have:ys.countP p≤xs.countP p:=cnt_le (by simpa using h) fun i a b ha hb=>h1 (i+1) a b (by simpa using ha) (by simpa using hb)
  simp only [List.countP_cons,e3,e4,if_true]
  simp; omega
 | x::xs,y::ys,k+1,h,h1,⟨x',y',e1,e2,e3,e4⟩=>by
  simp only [List.getElem?_cons_succ] at e1 e2
  have ih:=cnt_lt (p:=p) (xs:=xs) (ys:=ys) (k:=k) (by simpa using h) (fun i a b ha hb=>h1 (i+1) a b (by simpa using ha) (by simpa using hb)) ⟨x',y',e1,e2,e3,e4⟩
  have h0:=h1 0 x y rfl rfl
  simp only [List.countP_cons]
  cases hy:p y
  ·simp; split <;> omega
  ·simp [h0 hy]; exact ih
where
 cnt_le {p:Int→Bool}:∀ {xs ys:List Int},xs.length=ys.length→(∀ (i:Nat) (x y:Int),xs[i]?=some x→ys[i]?=some y→p y=true→p x=true)→ys.countP p≤xs.countP p
 | [],ys,h,_=>by cases ys <;> simp at h ⊢
 | x::xs,[],_,_=>by simp
 | x::xs,y::ys,h,h1=>by
  have ih:=cnt_le (p:=p) (xs:=xs) (ys:=ys) (by simpa using h) fun i a b ha hb=>h1 (i+1) a b (by simpa using ha) (by simpa using hb)
  have h0:=h1 0 x y rfl rfl
  simp only [List.countP_cons]
  cases hy:p y
  ·simp; omega
  ·simp [h0 hy]; exact ih
theorem late_cnt {c c':Chart} (hI:Inv l c) (hI':Inv l c') (h:Late l c c') {k:Nat} (hk:k < l.length) (h1:isDue c.now (szAt c.dues k)=true)
  (h2:c'.dues[k]?=some 0∨∃ y,c'.dues[k]?=some y∧c.now < y):cnt c'.now c'.dues < cnt c.now c.dues:=by
 have hlen:c.dues.length=c'.dues.length:=by rw [hI.dues,hI'.dues]
 rw [h.now]
 have no0:isDue c.now 0=false:=rfl
 have noy:∀ y,c.now < y→isDue c.now y=false:=fun y hy=>by simp [isDue,andB,notB,leI,eqI]; omega
 refine cnt_lt (k:=k) hlen (fun i x y hx hy hp=>?_) ?_
 ·rcases h.dues i with e | e | ⟨z,e1,e2,_⟩
  ·rw [hx,hy] at e; simp only [Option.some.injEq] at e; rw [← e]; exact hp
  ·rw [hy] at e; simp only [Option.some.injEq] at e; rw [e,no0] at hp; simp at hp
  ·rw [hy] at e1; simp only [Option.some.injEq] at e1; rw [e1,noy z e2] at hp; simp at hp
 ·have hkd:k < c.dues.length:=by rw [hI.dues]; exact hk
  rw [szAt_lt hkd] at h1
  rcases h2 with e | ⟨y,e1,e2⟩
  ·exact ⟨c.dues[k],0,by simp [hkd],e,h1,no0⟩
  ·exact ⟨c.dues[k],y,by simp [hkd],e1,h1,noy y e2⟩
def DueOk (l:List Step) (c:Chart):Prop:=∀ i:Nat,i < l.length→szAt c.dues i≠0→dueK l i
theorem DueOk.late {c c':Chart} (h:DueOk l c) (hI:Inv l c) (hI':Inv l c') (g:Late l c c'):DueOk l c':=fun i hi hn=>by
 have h1:i < c.dues.length:=by rw [hI.dues]; exact hi
 have h2:i < c'.dues.length:=by rw [hI'.dues]; exact hi
 rw [szAt_lt h2] at hn
 rcases g.dues i with e | e | ⟨y,_,_,e⟩
 ·simp only [h1,h2,List.getElem?_eq_getElem,Option.some.injEq] at e
  exact h i hi (by rw [szAt_lt h1,← e]; exact hn)
 ·simp only [h2,List.getElem?_eq_getElem,Option.some.injEq] at e
  exact absurd e hn
 ·exact e
def guardC (l:List Step) (d:Nat) (c:Chart):Chart:=idleC (undsM l (szAt (kidsM d 0 l) 0).toNat) { c with dues:=c.dues.set d 0 }
def tickC (l:List Step) (d:Nat) (c:Chart):Chart:=
 if eqI (kindOf l d) 6=true then goX l false d c else goX l true (szAt (kidsM d 0 l) 1).toNat (guardC l d c)
def tickM (l:List Step):Nat→Chart→Chart
 | 0,c=>c
 | f+1,c=>if eqI c.status 1=true then (if ltI (dueM c.dues c.now) 0=true then c else tickM l f (tickC l (dueM c.dues c.now).toNat c)) else c
theorem Wf.guard (w:Wf l) {k:Nat} (hk:k < l.length) (h:kindOf l k=8):∃ a b:Nat,szAt (kidsM k 0 l) 0=a∧szAt (kidsM k 0 l) 1=b∧a < l.length∧b < l.length∧2≤(kidsM k 0 l).length:=by
 have hn:=w.kidsN hk
 rw [h] at hn
 have e:kidB 8=(2,2):=rfl
 rw [e] at hn
 simp only [inR,andB,leI,Bool.and_eq_true,decide_eq_true_eq] at hn
 obtain ⟨a,h1,h2,_⟩:=w.kid (szAt_mem (show 0 < (kidsM k 0 l).length by omega))
 obtain ⟨b,h3,h4,_⟩:=w.kid (szAt_mem (show 1 < (kidsM k 0 l).length by omega))
 exact ⟨a,b,h1,h3,h2,h4,by omega⟩
theorem tickC_ok (w:Wf l) {c:Chart} (hI:Inv l c) (hd:DueOk l c) {d:Nat} (hdl:d < l.length) (h1:isDue c.now (szAt c.dues d)=true):
  Inv l (tickC l d c)∧DueOk l (tickC l d c)∧cnt (tickC l d c).now (tickC l d c).dues < cnt c.now c.dues∧(tickC l d c).now=c.now:=by
 have hn:szAt c.dues d≠0:=fun e=>by rw [e] at h1; simp [isDue,andB,notB,eqI] at h1
 have key:∀ {c':Chart},Inv l c'→Late l c c'→(c'.dues[d]?=some 0∨∃ y,c'.dues[d]?=some y∧c.now < y)→Inv l c'∧DueOk l c'∧cnt c'.now c'.dues < cnt c.now c.dues∧c'.now=c.now:=
  fun a b e=>⟨a,hd.late hI a b,late_cnt hI a b hdl h1 e,b.now⟩
 unfold tickC
 split
 ·exact key (goX_inv w _ _ _ hI hdl) (goX_late w _ _ _ hI hdl) (over_late w d c hI hdl)
 ·rename_i q
  have h8:kindOf l d=8:=by
   rcases hd d hdl hn with h | h
   ·exact absurd (by rw [h]; rfl) q
   ·exact h
  obtain ⟨a,b,e1,e2,e3,e4,_⟩:=w.guard hdl h8
  rw [e2,Int.toNat_natCast]
  have i1:Inv l (guardC l d c):=(hI.due d 0).idle _
  have l0:Late l c { c with dues:=c.dues.set d 0 }:=⟨rfl,fun i=>by
   simp only [List.getElem?_set]
   split
   ·split
    ·exact .inr (.inl rfl)
    ·rename_i e _; subst e; exact .inl (by rw [List.getElem?_eq_none (by omega)])
   ·exact .inl rfl⟩
  have l1:Late l c (guardC l d c):=l0.trans (.idle _)
  have l2:=goX_late w true b _ i1 e4
  refine key (goX_inv w _ _ _ i1 e4) (l1.trans l2) ?_
  have hdd:d < c.dues.length:=by rw [hI.dues]; exact hdl
  have z:(guardC l d c).dues[d]?=some 0:=by
   rcases zap_at (undsM l (szAt (kidsM d 0 l) 0).toNat) (c.dues.set d 0) d with h | h
   ·have:(guardC l d c).dues[d]?=(c.dues.set d 0)[d]?:=h
    rw [this]; simp [hdd]
   ·exact h
  rcases l2.dues d with e | e | ⟨y,y1,y2,_⟩
  ·exact .inl (e.trans z)
  ·exact .inl e
  ·exact .inr ⟨y,y1,by rw [← l1.now]; exact y2⟩
end
end Go.TM.Ft
namespace Go.TM.Ft
open Go Go.TM Go.Proofs
set_option maxRecDepth 20000
attribute [local congr] gif_cg
attribute [local simp] footOf noClash clash upsets setsHit setHits layHits layMeets setsMeet evFeet seal4_iE seal4_set clean_iE
theorem allFit_at {l:List Step} {c:Chart}:∀ (f i:Nat),allFit l c f i=true→∀ k,i≤k→k < i+f→fitsM l c k=true
 | 0,i,_,k,h1,h2=>by omega
 | f+1,i,h,k,h1,h2=>by
  unfold allFit at h
  split at h
  ·rename_i q
   rcases Nat.lt_or_ge i k with h' | h'
   ·exact allFit_at f (i+1) h k h' (by omega)
   ·have:k=i:=by omega
    rw [this]; exact q
  ·simp at h
theorem due_of {l:List Step} {c:Chart} (h:chartM l c=0):DueOk l c:=by
 have ha:=chartM_zero h
 obtain ⟨_,_,_,_,z5,z6⟩:=chartA_zero ha
 unfold chartM at h
 rw [ha] at h
 simp only [show notB (eqI 0 0)=false from rfl,Bool.false_eq_true,if_false] at h
 split at h
 ·simp at h
 have ho:=ci_zero (by omega) h
 have ho:ordM l c=true:=by cases e:ordM l c <;> simp [e,notB] at ho ⊢
 intro i hi hn
 unfold ordM at ho
 split at ho
 ·simp only [andB,Bool.and_eq_true] at ho
  have h2:=ho.2
  simp only [smS,notB,Bool.not_eq_true',hasB_any] at h2
  rw [List.any_eq_false] at h2
  have:=h2 (szAt c.dues i) (szAt_mem (by omega))
  simp [badS,notB,inR,andB,leI] at this
  omega
 ·split at ho
  ·rename_i q
   have hf:=allFit_at l.length 0 q i (Nat.zero_le _) (by omega)
   have hd:notB (eqI (szAt c.dues i) 0)=true:=by simp [notB,eqI,hn]
   unfold fitsM at hf
   rw [hd] at hf
   split at hf
   ·simp at hf
   split at hf
   ·simp [andB,eqI,hn] at hf
   ·unfold fitsK at hf
    split at hf
    ·split at hf <;> simp [eqB] at hf
    split at hf
    ·split at hf <;> simp [eqB] at hf
    split at hf
    ·rename_i q8
     exact .inr (by simpa [eqI] using q8)
    split at hf
    ·rename_i q6
     exact .inl (by simpa [eqI] using q6)
    split at hf
    ·simp at hf
    ·simp [eqB] at hf
  ·simp at ho
set_option maxHeartbeats 4000000 in
theorem f_due (dues:List Int) (hd:dues.length < 2 ^ 62) (now:Int):fo 198 [A (iS dues),A (vI now)]=some (R (vI (dueM dues now))):=by
 have h:=loop_all (σ:=Int) (f:=198) (id:=0) (code:=loopOf Tryz.f198 0) dues (fun _ d=>d=-1∨∃ k:Nat,d=k∧k < dues.length)
  (fun i d=>⟨37,[(0,iS dues),(1,vI now),(5,vI d),(8,iS dues),(9,vI dues.length),(10,vI i)],[],2⟩) (fun (i:Nat) (d:Int) (x:Int)=>if dueB now dues d x=true then (i:Int) else d)
  (fun d=>⟨37,[(0,iS dues),(1,vI now),(5,vI d),(8,iS dues),(9,vI dues.length),(10,vI dues.length),(11,vB false)],[],2⟩)
 have h2:=h ?_ ?_ (-1) (.inl rfl)
 ·refine orc_198 (dues.length+1) ?_
  simp -dsimp [Tryz.f198] at h2
  simp (maxSteps:=1000000) +contextual -dsimp [Tryz.f198,h2,dueM]
 ·intro k d _
  have hlt:=ltN_f dues.length
  simp +contextual -dsimp [Tryz.f198,hlt]
 ·intro k i d hi hI
  have hlt:=ltN_t hi
  have hw:=wrap1 hi hd
  generalize hs:((i+1:Nat):Int)=i1 at *
  refine ⟨?_,?_⟩
  ·rcases hI with rfl | ⟨j,rfl,hj⟩
   ·have e:ltI (-1) 0=true:=rfl
    unfold dueB
    rw [e]
    cases q1:eqI dues[i] 0 <;> cases q2:leI dues[i] now <;>
     simp (maxSteps:=1000000) +contextual -dsimp [Tryz.f198,hlt,hi,hw,hs,q1,q2,e]
   ·have e:ltI (j:Int) 0=false:=ltI_f (by omega)
    unfold dueB
    rw [e,szAt_lt hj]
    cases q1:eqI dues[i] 0 <;> cases q2:leI dues[i] now <;> cases q3:ltI dues[i] dues[j] <;>
     simp (maxSteps:=1000000) +contextual -dsimp [Tryz.f198,hlt,hi,hj,hw,hs,q1,q2,q3,e]
  ·split
   ·exact .inr ⟨i,rfl,hi⟩
   ·exact hI
set_option maxHeartbeats 4000000 in
theorem f_l9Due (c:Chart) (hd:c.dues.length < 2 ^ 62):fo 195 [A (.ipt (cT c))]=some (R (vI (dueM c.dues c.now))):=by
 have h:=loop_all (σ:=Int) (f:=195) (id:=0) (code:=loopOf Tryz.f195 0) c.dues (fun _ d=>d=-1∨∃ k:Nat,d=k∧k < c.dues.length)
  (fun i d=>⟨59,[(0,.ipt (cT c)),(3,vI d),(4,vI i)],[],2⟩) (fun (i:Nat) (d:Int) (x:Int)=>if dueB c.now c.dues d x=true then (i:Int) else d)
  (fun d=>⟨59,[(0,.ipt (cT c)),(3,vI d),(4,vI c.dues.length),(11,vB false)],[],2⟩)
 have h2:=h ?_ ?_ (-1) (.inl rfl)
 ·refine orc_195 (c.dues.length+1) ?_
  simp -dsimp [Tryz.f195] at h2
  simp (maxSteps:=1000000) +contextual -dsimp [Tryz.f195,h2,dueM]
 ·intro k d _
  have hlt:=ltN_f c.dues.length
  simp +contextual -dsimp [Tryz.f195,hlt]
 ·intro k i d hi hI
  have hlt:=ltN_t hi
  have hw:=wrap1 hi hd
  generalize hs:((i+1:Nat):Int)=i1 at *
  refine ⟨?_,?_⟩
  ·rcases hI with rfl | ⟨j,rfl,hj⟩
   ·have e:ltI (-1) 0=true:=rfl
    unfold dueB
    rw [e]
    cases q1:eqI c.dues[i] 0 <;> cases q2:leI c.dues[i] c.now <;>
     simp (maxSteps:=1000000) +contextual -dsimp [Tryz.f195,hlt,hi,hw,hs,q1,q2,e]
   ·have e:ltI (j:Int) 0=false:=ltI_f (by omega)
    unfold dueB
    rw [e,szAt_lt hj]
    cases q1:eqI c.dues[i] 0 <;> cases q2:leI c.dues[i] c.now <;> cases q3:ltI c.dues[i] c.dues[j] <;>
     simp (maxSteps:=1000000) +contextual -dsimp [Tryz.f195,hlt,hi,hj,hw,hs,q1,q2,q3,e]
  ·split
   ·exact .inr ⟨i,rfl,hi⟩
   ·exact hI
end Go.TM.Ft
namespace Go.TM.Ft
open Go Go.TM Go.Proofs
set_option maxRecDepth 20000
attribute [local congr] gif_cg
attribute [local simp] footOf noClash clash upsets setsHit setHits layHits layMeets setsMeet evFeet seal4_iE seal4_set clean_iE
def mailB (acts:List Int) (word:Int) (i:Nat) (s:Step):Bool:=andB (andB (eqI s.kind 5) (eqI s.arg word)) (eqI (szAt acts i) 1)
def mailG (acts:List Int) (word:Int) (i:Nat) (_:Unit) (s:Step):Nat ⊕ Unit:=if mailB acts word i s=true then .inl i else .inr ()
def mailF (l:List Step) (c:Chart):Nat ⊕ Unit→Int × Chart
 | .inl k=>(0,goX l false k c)
 | .inr _=>(4,noC)
def mailA (l:List Step) (c:Chart) (word:Int):Int:=first2 (chartM l c) (ci (notB (inR word 0 9)) 3)
def mailM (l:List Step) (c:Chart) (word:Int):Int × Chart:=if notB (eqI (mailA l c word) 0)=true then (mailA l c word,noC) else mailF l c (foldS (mailG c.acts word) 0 () l)
abbrev z116:List T:=[vI 0,vI 0,vI 0,.own 2 [],.own 2 [],.own 2 []]
set_option maxHeartbeats 4000000 in
theorem lp126 {l:List Step} (w:Wf l) (c:Chart) (hI:Inv l c) (word:Int):
  Goes 0 (fun _=>⟨63,[(0,.sl 124 (l.map (sT 219))),(2,vI word),(4,.ptr 4 1 [] 0),(6,.ptr 6 1 [] 0),(24,.sl 124 (l.map (sT 219))),(25,vI l.length),(26,vI l.length),(27,vB false)],[(4,⟨1,1,true,cT c⟩),(6,⟨1,1,true,z116⟩)],2⟩)
   (fun k st=>st=⟨63,[(6,.ptr 6 1 [] 0)],[(6,⟨1,1,true,vI 0::cO (goX l false k c)⟩),(52,⟨1,1,true,[.sl 124 (l.map (sT 219)),vI (goX l false k c).status,vI (goX l false k c).now,.dead,.dead,.dead]⟩)],2⟩)
   (evLoop E (orc E) (126:Nat) (l.length+1) (loopOf Tryz.f126 0) ⟨63,[(0,.sl 124 (l.map (sT 219))),(2,vI word),(4,.ptr 4 1 [] 0),(6,.ptr 6 1 [] 0),(24,.sl 124 (l.map (sT 219))),(25,vI l.length),(26,vI (0:Nat))],[(4,⟨1,1,true,cT c⟩),(6,⟨1,1,true,z116⟩)],2⟩)
   (foldS (mailG c.acts word) 0 () l):=by
 have h:=loop_list (f:=126) (id:=0) (code:=loopOf Tryz.f126 0) l (fun _ _=>True)
  (fun i (_:Unit)=>⟨63,[(0,.sl 124 (l.map (sT 219))),(2,vI word),(4,.ptr 4 1 [] 0),(6,.ptr 6 1 [] 0),(24,.sl 124 (l.map (sT 219))),(25,vI l.length),(26,vI i)],[(4,⟨1,1,true,cT c⟩),(6,⟨1,1,true,z116⟩)],2⟩)
  (mailG c.acts word) (fun _=>⟨63,[(0,.sl 124 (l.map (sT 219))),(2,vI word),(4,.ptr 4 1 [] 0),(6,.ptr 6 1 [] 0),(24,.sl 124 (l.map (sT 219))),(25,vI l.length),(26,vI l.length),(27,vB false)],[(4,⟨1,1,true,cT c⟩),(6,⟨1,1,true,z116⟩)],2⟩)
  (fun k st=>st=⟨63,[(6,.ptr 6 1 [] 0)],[(6,⟨1,1,true,vI 0::cO (goX l false k c)⟩),(52,⟨1,1,true,[.sl 124 (l.map (sT 219)),vI (goX l false k c).status,vI (goX l false k c).now,.dead,.dead,.dead]⟩)],2⟩)
 have hle:=w.ok.le
 refine h ?_ ?_ l 0 () rfl (Nat.zero_le _) trivial
 ·intro k _ _
  have hlt:=ltN_f l.length
  simp +contextual -dsimp [Tryz.f126,hlt]
 ·intro k i _ hi _
  have hlt:=ltN_t hi
  have hw:=wrap1 hi (by omega)
  have hia:i < c.acts.length:=by rw [hI.acts]; exact hi
  have hs:=szAt_lt hia
  refine ⟨fun s' hg=>⟨?_,trivial⟩,fun e hg=>?_⟩
  ·unfold mailG mailB at hg
   rw [hs] at hg
   generalize hs1:((i+1:Nat):Int)=i1 at *
   cases q1:eqI (l[i]).kind 5
   ·simp (maxSteps:=1000000) +contextual -dsimp [Tryz.f126,hlt,hi,hw,hs1,q1,List.set]
   ·cases q2:eqI (l[i]).arg word
    ·simp (maxSteps:=1000000) +contextual -dsimp [Tryz.f126,hlt,hi,hw,hs1,q1,q2,List.set]
    ·cases q3:eqI c.acts[i] 1
     ·simp (maxSteps:=1000000) +contextual -dsimp [Tryz.f126,hlt,hi,hia,hw,hs1,q1,q2,q3,List.set]
     ·rw [q1,q2,q3] at hg; simp [andB] at hg
  ·unfold mailG mailB at hg
   rw [hs] at hg
   split at hg
   ·rename_i q
    simp only [Sum.inl.injEq] at hg; subst hg
    simp only [andB,Bool.and_eq_true] at q
    obtain ⟨⟨q1,q2⟩,q3⟩:=q
    have g1:=f_cloneC c (hI.few w)
    obtain ⟨g2,_⟩:=f_goOver w hI i hi
    refine ⟨_,?_,rfl⟩
    generalize goX l false i c=c' at *
    simp (maxSteps:=1000000) +contextual -dsimp [Tryz.f126,hlt,hi,hia,q1,q2,q3,g1,g2,List.set]
   ·simp at hg
set_option maxHeartbeats 4000000 in
theorem f_MailChart (l:List Step) (hl:l.length < 2 ^ 62) (hf:∀ s,s∈l→FitS s) (c:Chart) (hc:FitC c) (word:Int):
  fo 126 [A (.sl 124 (l.map (sT 219))),A (.agg (cT c)),A (vI word)]=some (RR (mailM l c word)):=by
 have g1:=f_ChartFault l hl hf c hc
 have g3:=f_first2 (chartM l c) (ci (notB (inR word 0 9)) 3)
 rw [show first2 (chartM l c) (ci (notB (inR word 0 9)) 3)=mailA l c word from rfl] at g3
 unfold mailM
 cases q:eqI (mailA l c word) 0
 ·refine orc_126 1 ?_
  simp (maxSteps:=1000000) +contextual -dsimp [Tryz.f126,g1,g3,f_inRange,f_ci,q,noC,List.set]
 ·have q0:mailA l c word=0:=by simpa [eqI] using q
  obtain ⟨z1,z2⟩:=first2_zero q0
  obtain ⟨hI,w,_,_⟩:=inv_of z1
  have h:=lp126 w c hI word
  have q1:eqI 0 0=true:=rfl
  rw [q0] at g3
  have n0:notB true=false:=rfl
  rw [n0,if_neg (by simp)]
  cases e:foldS (mailG c.acts word) 0 () l with
  | inr s=>
   rw [e] at h
   simp only [Goes] at h
   simp -dsimp [Tryz.f126] at h
   refine orc_126 (l.length+1) ?_
   simp (maxSteps:=1000000) +contextual -dsimp [Tryz.f126,g1,g3,h,f_inRange,f_ci,q1,mailF,noC,List.set]
  | inl k=>
   rw [e] at h
   simp only [Goes] at h
   obtain ⟨st,h1,rfl⟩:=h
   simp only [mailF]
   generalize goX l false k c=c' at *
   simp -dsimp [Tryz.f126] at h1
   refine orc_126 (l.length+1) ?_
   simp (maxSteps:=1000000) +contextual -dsimp [Tryz.f126,g1,g3,h1,f_inRange,f_ci,q1,List.set]
set_option maxHeartbeats 4000000 in
theorem lp73 {l:List Step} (w:Wf l) (c:Chart) (hI:Inv l c) (word:Int):
  Goes 0 (fun _=>⟨57,[(0,.sl 124 (l.map (sT 219))),(2,vI word),(4,.ptr 4 1 [] 0),(6,.ptr 6 1 [] 0),(8,vI l.length),(23,vB false)],[(4,⟨1,1,true,cT c⟩),(6,⟨1,1,true,z116⟩)],2⟩)
   (fun k st=>st=⟨57,[(6,.ptr 6 1 [] 0)],[(6,⟨1,1,true,vI 0::cO (goX l false k c)⟩),(9,⟨1,1,true,[vI (goX l false k c).status,vI (goX l false k c).now,.dead,.dead,.dead]⟩)],2⟩)
   (evLoop E (orc E) (73:Nat) (l.length+1) (loopOf Tryz.f73 0) ⟨57,[(0,.sl 124 (l.map (sT 219))),(2,vI word),(4,.ptr 4 1 [] 0),(6,.ptr 6 1 [] 0),(8,vI (0:Nat))],[(4,⟨1,1,true,cT c⟩),(6,⟨1,1,true,z116⟩)],2⟩)
   (foldS (mailG c.acts word) 0 () l):=by
 have h:=loop_list (f:=73) (id:=0) (code:=loopOf Tryz.f73 0) l (fun _ _=>True)
  (fun i (_:Unit)=>⟨57,[(0,.sl 124 (l.map (sT 219))),(2,vI word),(4,.ptr 4 1 [] 0),(6,.ptr 6 1 [] 0),(8,vI i)],[(4,⟨1,1,true,cT c⟩),(6,⟨1,1,true,z116⟩)],2⟩)
  (mailG c.acts word) (fun _=>⟨57,[(0,.sl 124 (l.map (sT 219))),(2,vI word),(4,.ptr 4 1 [] 0),(6,.ptr 6 1 [] 0),(8,vI l.length),(23,vB false)],[(4,⟨1,1,true,cT c⟩),(6,⟨1,1,true,z116⟩)],2⟩)
  (fun k st=>st=⟨57,[(6,.ptr 6 1 [] 0)],[(6,⟨1,1,true,vI 0::cO (goX l false k c)⟩),(9,⟨1,1,true,[vI (goX l false k c).status,vI (goX l false k c).now,.dead,.dead,.dead]⟩)],2⟩)
 have hle:=w.ok.le
 refine h ?_ ?_ l 0 () rfl (Nat.zero_le _) trivial
 ·intro k _ _
  have hlt:=ltN_f l.length
  simp +contextual -dsimp [Tryz.f73,hlt]
 ·intro k i _ hi _
  have hlt:=ltN_t hi
  have hw:=wrap1 hi (by omega)
  have hia:i < c.acts.length:=by rw [hI.acts]; exact hi
  have hs:=szAt_lt hia
  refine ⟨fun s' hg=>⟨?_,trivial⟩,fun e hg=>?_⟩
  ·unfold mailG mailB at hg
   rw [hs] at hg
   generalize hs1:((i+1:Nat):Int)=i1 at *
   cases q1:eqI (l[i]).kind 5
   ·simp (maxSteps:=1000000) +contextual -dsimp [Tryz.f73,hlt,hi,hw,hs1,q1,List.set]
   ·cases q2:eqI (l[i]).arg word
    ·simp (maxSteps:=1000000) +contextual -dsimp [Tryz.f73,hlt,hi,hw,hs1,q1,q2,List.set]
    ·cases q3:eqI c.acts[i] 1
     ·simp (maxSteps:=1000000) +contextual -dsimp [Tryz.f73,hlt,hi,hia,hw,hs1,q1,q2,q3,List.set]
     ·rw [q1,q2,q3] at hg; simp [andB] at hg
  ·unfold mailG mailB at hg
   rw [hs] at hg
   split at hg
   ·rename_i q
    simp only [Sum.inl.injEq] at hg; subst hg
    simp only [andB,Bool.and_eq_true] at q
    obtain ⟨⟨q1,q2⟩,q3⟩:=q
    have g1:=f_l9Copy c (hI.few w)
    have g2:=f_goOver4 w hI i hi
    refine ⟨_,?_,rfl⟩
    generalize goX l false i c=c' at *
    simp (maxSteps:=1000000) +contextual -dsimp [Tryz.f73,hlt,hi,hia,q1,q2,q3,g1,g2,List.set]
   ·simp at hg
set_option maxHeartbeats 4000000 in
theorem f4_MailChart (l:List Step) (hl:l.length < 2 ^ 62) (hf:FitX l) (c:Chart) (word:Int):
  fo 73 [A (.sl 124 (l.map (sT 219))),A (.agg (cT c)),A (vI word)]=some (RR (mailM l c word)):=by
 have g1:=f_l9Fault l hl hf c
 rw [chart_same] at g1
 unfold mailM
 cases q:eqI (chartM l c) 0
 ·have e:mailA l c word=chartM l c:=by simp [mailA,first2,q]
  have gb:=f_l9Bad (chartM l c)
  rw [e,q]
  refine orc_73 1 ?_
  simp (maxSteps:=1000000) +contextual -dsimp [Tryz.f73,g1,gb,q,List.set]
 ·have q0:chartM l c=0:=by simpa [eqI] using q
  obtain ⟨hI,w,_,_⟩:=inv_of q0
  have e:mailA l c word=ci (notB (inR word 0 9)) 3:=by simp [mailA,first2,q]
  rw [e]
  cases r:inR word 0 9
  ·have gb:=f_l9Bad 3
   have n3:notB (eqI (ci (notB false) 3) 0)=true:=rfl
   rw [n3,if_pos rfl]
   refine orc_73 1 ?_
   simp (maxSteps:=1000000) +contextual -dsimp [Tryz.f73,g1,gb,q,r,f_l1In,List.set]
   rfl
  ·have gb:=f_l9Bad 4
   have n3:notB (eqI (ci (notB true) 3) 0)=false:=rfl
   rw [n3,if_neg (by simp)]
   have h:=lp73 w c hI word
   cases e:foldS (mailG c.acts word) 0 () l with
   | inr s=>
    rw [e] at h
    simp only [Goes] at h
    simp -dsimp [Tryz.f73] at h
    refine orc_73 (l.length+1) ?_
    simp (maxSteps:=1000000) +contextual -dsimp [Tryz.f73,g1,gb,h,f_l1In,q,r,mailF,List.set]
   | inl k=>
    rw [e] at h
    simp only [Goes] at h
    obtain ⟨st,h1,rfl⟩:=h
    simp only [mailF]
    generalize goX l false k c=c' at *
    simp -dsimp [Tryz.f73] at h1
    refine orc_73 (l.length+1) ?_
    simp (maxSteps:=1000000) +contextual -dsimp [Tryz.f73,g1,h1,f_l1In,q,r,List.set]
end Go.TM.Ft
namespace Go.TM.Ft
open Go Go.TM Go.Proofs
set_option maxRecDepth 20000
attribute [local congr] gif_cg
attribute [local simp] footOf noClash clash upsets setsHit setHits layHits layMeets setsMeet evFeet seal4_iE seal4_set clean_iE
theorem kids_two {l:List Step} (w:Wf l) {d:Nat} (hd:d < l.length) (h8:kindOf l d=8):∃ (a b:Nat) (r:List Int),kidsM d 0 l=(a:Int)::(b:Int)::r∧a < l.length∧b < l.length:=by
 obtain ⟨a,b,e1,e2,h1,h2,h3⟩:=w.guard hd h8
 generalize kidsM d 0 l=ks at *
 match ks,h3 with
 | x::y::r,_=>exact ⟨a,b,r,by rw [← e1,← e2]; rfl,h1,h2⟩
theorem dueK_8 {l:List Step} {c:Chart} (hd:DueOk l c) {d:Nat} (hdl:d < l.length) (h1:isDue c.now (szAt c.dues d)=true) (q:eqI (kindOf l d) 6=false):kindOf l d=8:=by
 have hn:szAt c.dues d≠0:=fun e=>by rw [e] at h1; simp [isDue,andB,notB,eqI] at h1
 rcases hd d hdl hn with h | h
 ·rw [h] at q; simp [eqI] at q
 ·exact h
def TickSt (l:List Step) (now:Int) (c:Chart) (st:St):Prop:=∃ x,(x=[(41,vB false)]∨∃ d,x=[(9,vI d),(50,vB true)])∧
 st=⟨85,[(0,.sl 124 (l.map (sT 219))),(2,vI now),(6,.ptr 6 1 [] 0),(8,.ptr 30 1 [] 0)]++x,[(6,⟨1,1,true,z116⟩),(30,⟨1,1,true,bO l c⟩)],2⟩
set_option maxHeartbeats 4000000 in
theorem lp132 {l:List Step} (w:Wf l) (now:Int):∀ (f:Nat) (c:Chart),Inv l c→DueOk l c→c.now=now→cnt c.now c.dues < f→
  ∃ st,evLoop E (orc E) (132:Nat) f (loopOf Tryz.f132 0) ⟨85,[(0,.sl 124 (l.map (sT 219))),(2,vI now),(6,.ptr 6 1 [] 0),(8,.ptr 30 1 [] 0)],[(6,⟨1,1,true,z116⟩),(30,⟨1,1,true,bO l c⟩)],2⟩=some (.exit 0,st)∧TickSt l now (tickM l f c) st
 | 0,c,_,_,_,h=>by omega
 | f+1,c,hI,hD,hn,hc=>by
  have hle:=w.ok.le
  unfold tickM
  cases q1:eqI c.status 1
  ·rw [if_neg (by simp)]
   refine ⟨_,evLoop_out ?_ (by simp),_,.inl rfl,rfl⟩
   simp (maxSteps:=1000000) +contextual -dsimp [Tryz.f132,q1,List.set]
  ·rw [if_pos rfl]
   have g1:=f_due c.dues (by rw [hI.dues]; omega) now
   rw [hn]
   rcases dueM_some c.dues now with e | ⟨d,e,hd,hdue⟩
   ·rw [e] at g1 ⊢
    have e1:ltI (-1) 0=true:=rfl
    rw [e1,if_pos rfl]
    refine ⟨_,evLoop_out ?_ (by simp),_,.inr ⟨-1,rfl⟩,rfl⟩
    simp (maxSteps:=1000000) +contextual -dsimp [Tryz.f132,q1,g1,e1,List.set]
   ·rw [e] at g1 ⊢
    have e1:ltI (d:Int) 0=false:=ltI_f (by omega)
    rw [e1,if_neg (by simp),Int.toNat_natCast]
    have hdl:d < l.length:=by rw [← hI.dues]; exact hd
    rw [← hn] at hdue
    obtain ⟨t1,t2,t3,t4⟩:=tickC_ok w hI hD hdl hdue
    obtain ⟨st,ih1,ih2⟩:=lp132 w now f (tickC l d c) t1 t2 (t4.trans hn) (by omega)
    refine ⟨st,?_,ih2⟩
    refine evLoop_next ?_ ih1
    have hk:=kindOf_at hdl
    cases q6:eqI (kindOf l d) 6
    ·have h8:=dueK_8 hD hdl hdue q6
     obtain ⟨a,b,r,hks,ha,hb⟩:=kids_two w hdl h8
     have gk:=f_kids l (by omega) d
     have i0:Inv l { c with dues:=c.dues.set d 0 }:=hI.due d 0
     have i1:Inv l (guardC l d c):=i0.idle _
     have s0:szAt (kidsM d 0 l) 0=a:=by rw [hks]; rfl
     have s1:szAt (kidsM d 0 l) 1=b:=by rw [hks]; rfl
     have g2:=f_idle w { c with dues:=c.dues.set d 0 } i0.acts i0.dues a ha
     have eg:idleC (undsM l a) { c with dues:=c.dues.set d 0 }=guardC l d c:=by unfold guardC; rw [s0]; rfl
     rw [eg] at g2
     obtain ⟨g3,_⟩:=f_goEnter w i1 b hb
     have et:tickC l d c=goX l true b (guardC l d c):=by unfold tickC; rw [q6,if_neg (by simp),s1]; rfl
     rw [et]
     generalize goX l true b (guardC l d c)=c2 at *
     generalize guardC l d c=c1 at *
     simp only [aB,bO,RB,iE,List.map_set] at g2
     rw [hks] at gk
     rw [hk] at q6
     generalize kidsM d 0 l=ks at *
     subst hks
     simp (maxSteps:=1000000) +contextual -dsimp [Tryz.f132,q1,g1,e1,hdl,q6,gk,hd,g2,g3,List.set]
    ·obtain ⟨g2,_⟩:=f_goOver w hI d hdl
     have et:tickC l d c=goX l false d c:=by unfold tickC; rw [q6,if_pos rfl]
     rw [et]
     rw [hk] at q6
     generalize goX l false d c=c1 at *
     simp (maxSteps:=1000000) +contextual -dsimp [Tryz.f132,q1,g1,e1,hdl,q6,g2,List.set]
end Go.TM.Ft
