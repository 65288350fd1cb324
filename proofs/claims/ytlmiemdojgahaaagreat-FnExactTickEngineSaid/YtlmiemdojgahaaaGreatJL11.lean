/- What functions of the program come to, by the machine. -/
import Derived.Test.YtlmiemdojgahaaaGreatJL10
import Derived.Test.YtlmiemdojgahaaaGreatJL8
set_option linter.unusedSimpArgs false
set_option linter.unusedVariables false
set_option maxHeartbeats 4000000
namespace Go.TM.Ft
open Go Go.TM Go.Proofs
set_option maxRecDepth 20000
section
variable {l:List Step}
def dueK (l:List Step) (i:Nat):Prop:=A8 l i=6∨A8 l i=8
structure Late (l:List Step) (c c':Chart):Prop where
 now:c'.now=c.now
 dues:∀ i,c'.dues[i]?=c.dues[i]?∨c'.dues[i]?=some 0∨∃ y,c'.dues[i]?=some y∧c.now < y∧dueK l i
theorem Late.same {c c':Chart} (h1:c'.now=c.now) (h2:c'.dues=c.dues):Late l c c':=⟨h1,fun i=>.inl (by rw [h2])⟩
theorem Late.refl {c:Chart}:Late l c c:=.same rfl rfl
theorem Late.trans {a b c:Chart} (h:Late l a b) (h':Late l b c):Late l a c:=⟨h'.now.trans h.now,fun i=>by
 rcases h'.dues i with e | e | ⟨y,e1,e2,e3⟩
 ·rw [e]; exact h.dues i
 ·exact .inr (.inl e)
 ·exact .inr (.inr ⟨y,e1,by rw [← h.now]; exact e2,e3⟩)⟩
theorem Late.stop {c:Chart} (h:Inv l c) (st:Int):Late l c (a0k l st c):=⟨rfl,fun i=>by
 rcases Nat.lt_or_ge i l.length with hi | hi
 ·exact .inr (.inl (by simp [a0k,hi]))
 ·exact .inl (by have:=h.dues; rw [List.getElem?_eq_none (by simp [a0k]; omega),List.getElem?_eq_none (by omega)])⟩
theorem b8c:∀ (ks xs:List Int) (i:Nat),(zap ks xs)[i]?=xs[i]?∨(zap ks xs)[i]?=some 0
 | [],xs,i=>.inl rfl
 | k::ks,xs,i=>by
  have e:zap (k::ks) xs=zap ks (xs.set k.toNat 0):=rfl
  rw [e]
  rcases b8c ks (xs.set k.toNat 0) i with h | h
  ·rw [h,List.getElem?_set]
   split
   ·split
    ·exact .inr rfl
    ·rename_i h1 h2; subst h1; exact .inl (by rw [List.getElem?_eq_none (by omega)])
   ·exact .inl rfl
  ·exact .inr h
theorem e9o:∀ (ks xs:List Int) (i:Nat),(i:Int)∈ks→i < xs.length→(zap ks xs)[i]?=some 0
 | [],_,_,h,_=>by simp at h
 | k::ks,xs,i,h,hi=>by
  have e:zap (k::ks) xs=zap ks (xs.set k.toNat 0):=rfl
  rw [e]
  rcases List.mem_cons.1 h with h | h
  ·subst h
   rcases b8c ks (xs.set i 0) i with h1 | h1
   ·simp only [Int.toNat_natCast]
    rw [h1,List.getElem?_set]; simp [hi]
   ·exact h1
  ·exact e9o ks _ i h (by simpa using hi)
theorem Late.idle {c:Chart} (ks:List Int):Late l c (a0l ks c):=⟨rfl,fun i=>by
 rcases b8c ks c.dues i with h | h
 ·exact .inl h
 ·exact .inr (.inl h)⟩
theorem Late.due {c:Chart} {k:Nat} {y:Int} (h:c.now < y) (hk:dueK l k):Late l c { c with dues:=c.dues.set k y }:=⟨rfl,fun i=>by
 simp only [List.getElem?_set]
 split
 ·rename_i e; subst e
  split
  ·exact .inr (.inr ⟨y,rfl,h,hk⟩)
  ·exact .inl (by rw [List.getElem?_eq_none (by omega)])
 ·exact .inl rfl⟩
def GoL (l:List Step) (go:Bool→Nat→Chart→Option Chart):Prop:=∀ b k c c',Inv l c→k < l.length→go b k c=some c'→Inv l c'∧Late l c c'
theorem GoL.all (w:Wf l) {go} (g:GoL l go):∀ (ks:List Int) (c c':Chart),(∀ x,x∈ks→∃ a:Nat,x=a∧a < l.length)→Inv l c→a3v go ks c=some c'→Late l c c'
 | [],c,c',_,_,h=>by simp only [a3v,Option.some.injEq] at h; subst h; exact .refl
 | x::ks,c,c',hk,hI,h=>by
  obtain ⟨a,rfl,ha⟩:=hk x (by simp)
  unfold a3v at h
  rw [Int.toNat_natCast] at h
  cases q:go true a c with
  | none=>rw [q] at h; simp at h
  | some c1=>
   rw [q] at h
   obtain ⟨h1,h2⟩:=g true a c c1 hI ha q
   exact h2.trans (GoL.all w g ks c1 c' (fun x hx=>hk x (by simp [hx])) h1 h)
theorem GoL.ent (w:Wf l) {go} (g:GoL l go) {k:Nat} (hk:k < l.length) {c c':Chart} (hI:Inv l c) (h:a8c go l k c=some c'):Late l c c':=by
 have ent:∀ {a:Nat} {c1:Chart},a < l.length→Inv l c1→Late l c c1→go true a c1=some c'→Late l c c':=fun ha h1 h2 h3=>h2.trans (g true _ _ _ h1 ha h3).2
 unfold a8c at h
 split at h
 ·rename_i q
  obtain ⟨a,h1,h2,h3⟩:=w.kid0 hk (.inl (by simpa [eqI] using q))
  rw [h1,Int.toNat_natCast] at h
  exact ent h2 hI .refl h
 split at h
 ·exact GoL.all w g _ _ _ (fun x hx=>by obtain ⟨a,h1,h2,_⟩:=w.kid hx; exact ⟨a,h1,h2⟩) hI h
 split at h
 ·split at h
  ·simp only [Option.some.injEq] at h; subst h; exact .stop hI 3
  ·rename_i n1
   split at h
   ·simp only [Option.some.injEq] at h; subst h; exact .refl
   ·rename_i n2
    rcases c0o l c.vars (A7 k 0 l) with hh | hh | hh
    ·exact absurd (by rw [hh]; rfl) n1
    ·exact absurd (by rw [hh]; rfl) n2
    ·obtain ⟨a,h1,h2,h3,_⟩:=w.kid hh
     rw [h1,Int.toNat_natCast] at h
     exact ent h2 hI .refl h
 split at h
 ·rename_i q
  have q:A8 l k=8:=by simpa [eqI] using q
  have ha:=w.arg hk (.inr q)
  obtain ⟨a,h1,h2,h3⟩:=w.kid0 hk (.inr q)
  rw [h1,Int.toNat_natCast] at h
  exact ent h2 (hI.due k _) (.due (by omega) (.inr q)) h
 split at h
 ·rename_i q
  have q:A8 l k=6:=by simpa [eqI] using q
  have ha:=w.arg hk (.inl q)
  simp only [Option.some.injEq] at h; subst h
  exact .due (by omega) (.inl q)
 split at h
 ·rename_i q
  split at h
  ·simp only [Option.some.injEq] at h; subst h; exact .stop hI 3
  ·rename_i v hv
   have q:A8 l k=7:=by simpa [eqI] using q
   obtain ⟨okx,_⟩:=w.expr hk (by rw [← a8k hk]; exact q)
   rw [show (l[k]).expr=a5l l k by simp [a5l,hk]] at okx
   have hI2:Inv l { c with vars:=c.vars.set (N1 l k).toNat v }:=hI.var _ (c1p okx hv)
   exact (Late.same rfl rfl:Late l c { c with vars:=c.vars.set (N1 l k).toNat v }).trans (g false k _ _ hI2 hk h).2
 ·simp only [Option.some.injEq] at h; subst h; exact .refl
theorem GoL.ovr (w:Wf l) {go} (g:GoL l go) {k:Nat} (hk:k < l.length) {c c':Chart} (hI:Inv l c) (h:a9p go l k c=some c'):Late l c c':=by
 unfold a9p at h
 split at h
 ·simp only [Option.some.injEq] at h; subst h; exact .stop hI 2
 rename_i q0
 have hk0:0 < k:=by
  rcases Nat.eq_zero_or_pos k with e | e
  ·subst e; exact absurd rfl q0
  ·exact e
 obtain ⟨p,hp,hpk⟩:=w.par hk hk0
 have hpl:p < l.length:=by omega
 rw [hp,Int.toNat_natCast] at h
 have ovr:∀ {c1:Chart},Inv l c1→Late l c c1→go false p c1=some c'→Late l c c':=fun h1 h2 h3=>h2.trans (g false _ _ _ h1 hpl h3).2
 unfold b5d at h
 split at h
 ·split at h
  ·rename_i q2
   have hmem:=w.kid_of hk hp
   obtain ⟨j,e1,e2,e3⟩:=b3n hmem
   have ej:(j:Int)+1=((j+1:Nat):Int):=by omega
   rw [e1,ej] at q2 h
   have hj:j+1 < (A7 p 0 l).length:=by simp [ltI] at q2; omega
   obtain ⟨s,h1,h2,h3,h4⟩:=w.kid (a7b hj)
   rw [h1,Int.toNat_natCast] at h
   exact (g true _ _ _ hI h2 h).2
  ·exact ovr hI .refl h
 split at h
 ·split at h
  ·simp only [Option.some.injEq] at h; subst h; exact .same rfl rfl
  ·exact ovr (hI.act k 2) (.same rfl rfl) h
 ·exact ovr hI .refl h
theorem b6v (w:Wf l):∀ f,GoL l (goC l f)
 | 0=>fun b k c c' _ _ h=>by cases b <;> simp [goC] at h
 | f+1=>fun b k c c' hI hk h=>by
  refine ⟨?_,?_⟩
  ·have:=b4r w (f+1) b k c c' hI hk h
   exact this.2
  have ih:=b6v w f
  cases b
  ·unfold goC at h
   exact (Late.idle (K3 l k)).trans (GoL.ovr w ih hk (hI.idle _) h)
  ·unfold goC at h
   split at h
   ·exact (Late.same rfl rfl:Late l c { c with acts:=c.acts.set k 1 }).trans (GoL.ent w ih hk (hI.act k 1) h)
   ·simp only [Option.some.injEq] at h; subst h; exact .refl
theorem d6l (w:Wf l) (b:Bool) (k:Nat) (c:Chart) (hI:Inv l c) (hk:k < l.length):Late l c (goX l b k c):=(b6v w 700 b k c _ hI hk (b0m w b k c hk)).2
theorem e9p (w:Wf l) (b:Bool) (k:Nat) (c:Chart) (hI:Inv l c) (hk:k < l.length):Inv l (goX l b k c):=(b6v w 700 b k c _ hI hk (b0m w b k c hk)).1
theorem g4c (w:Wf l) {k:Nat} (hk:k < l.length):(k:Int)∈K3 l k:=by
 rw [← d1n w k hk]; simp
theorem g1a (w:Wf l) (k:Nat) (c:Chart) (hI:Inv l c) (hk:k < l.length):(goX l false k c).dues[k]?=some 0∨∃ y,(goX l false k c).dues[k]?=some y∧c.now < y:=by
 have h:=b0m w false k c hk
 generalize goX l false k c=c' at *
 unfold goC at h
 have h1:=GoL.ovr w (b6v w 699) hk (hI.idle (K3 l k)) h
 have h2:(a0l (K3 l k) c).dues[k]?=some 0:=e9o _ _ _ (g4c w hk) (by rw [hI.dues]; exact hk)
 rcases h1.dues k with e | e | ⟨y,e1,e2,_⟩
 ·exact .inl (e.trans h2)
 ·exact .inl e
 ·exact .inr ⟨y,e1,e2⟩
def a8a (now:Int) (dues:List Int) (d x:Int):Bool:=A2 (A2 (A0 (eqI x 0)) (leI x now)) (orB (ltI d 0) (ltI x (A3 dues d)))
def a8b (dues:List Int) (now:Int):Int:=N5 (fun (i:Nat) (d:Int) (x:Int)=>if a8a now dues d x=true then (i:Int) else d) 0 (-1) dues
def a3t (now x:Int):Bool:=A2 (A0 (eqI x 0)) (leI x now)
theorem d2v (dues:List Int) (now:Int):∀ (r:List Int) (i:Nat) (d:Int),dues.drop i=r→(d=-1∨∃ k:Nat,d=k∧k < dues.length∧a3t now (A3 dues d)=true)→
  (∀ d',N5 (fun (i:Nat) (d:Int) (x:Int)=>if a8a now dues d x=true then (i:Int) else d) i d r=d'→d'=-1∨∃ k:Nat,d'=k∧k < dues.length∧a3t now (A3 dues d')=true)
 | [],i,d,_,h,d',e=>by simp only [N5] at e; subst e; exact h
 | x::r,i,d,hr,h,d',e=>by
  obtain ⟨hi,hc,hr'⟩:=C8 hr
  simp only [N5] at e
  refine d2v dues now r (i+1) _ hr' ?_ d' e
  split
  ·rename_i q
   refine .inr ⟨i,rfl,hi,?_⟩
   rw [K4 hi,hc]
   simp only [a8a,A2,Bool.and_eq_true] at q
   simp only [a3t,A2,Bool.and_eq_true]
   exact q.1
  ·exact h
theorem c1i (dues:List Int) (now:Int):a8b dues now=-1∨∃ k:Nat,a8b dues now=k∧k < dues.length∧a3t now (A3 dues k)=true:=by
 rcases d2v dues now dues 0 (-1) rfl (.inl rfl) (a8b dues now) rfl with h | ⟨k,h1,h2,h3⟩
 ·exact .inl h
 ·exact .inr ⟨k,h1,h2,by rw [h1] at h3; exact h3⟩
def cnt (now:Int) (dues:List Int):Nat:=dues.countP (a3t now)
theorem f3o {p:Int→Bool}:∀ {xs ys:List Int} {k:Nat},xs.length=ys.length→(∀ (i:Nat) (x y:Int),xs[i]?=some x→ys[i]?=some y→p y=true→p x=true)→
  (∃ x y,xs[k]?=some x∧ys[k]?=some y∧p x=true∧p y=false)→ys.countP p < xs.countP p
 | [],_,k,_,_,⟨x,y,h,_⟩=>by simp at h
 | x::xs,[],k,h,_,_=>by simp at h
 | x::xs,y::ys,0,h,h1,⟨x',y',e1,e2,e3,e4⟩=>by
  simp only [List.getElem?_cons_zero,Option.some.injEq] at e1 e2
  subst e1; subst e2
  have:ys.countP p≤xs.countP p:=a7p (by simpa using h) fun i a b ha hb=>h1 (i+1) a b (by simpa using ha) (by simpa using hb)
  simp only [List.countP_cons,e3,e4,if_true]
  simp; omega
 | x::xs,y::ys,k+1,h,h1,⟨x',y',e1,e2,e3,e4⟩=>by
  simp only [List.getElem?_cons_succ] at e1 e2
  have ih:=f3o (p:=p) (xs:=xs) (ys:=ys) (k:=k) (by simpa using h) (fun i a b ha hb=>h1 (i+1) a b (by simpa using ha) (by simpa using hb)) ⟨x',y',e1,e2,e3,e4⟩
  have h0:=h1 0 x y rfl rfl
  simp only [List.countP_cons]
  cases hy:p y
  ·simp; split <;> omega
  ·simp [h0 hy]; exact ih
where
 a7p {p:Int→Bool}:∀ {xs ys:List Int},xs.length=ys.length→(∀ (i:Nat) (x y:Int),xs[i]?=some x→ys[i]?=some y→p y=true→p x=true)→ys.countP p≤xs.countP p
 | [],ys,h,_=>by cases ys <;> simp at h ⊢
 | x::xs,[],_,_=>by simp
 | x::xs,y::ys,h,h1=>by
  have ih:=a7p (p:=p) (xs:=xs) (ys:=ys) (by simpa using h) fun i a b ha hb=>h1 (i+1) a b (by simpa using ha) (by simpa using hb)
  have h0:=h1 0 x y rfl rfl
  simp only [List.countP_cons]
  cases hy:p y
  ·simp; omega
  ·simp [h0 hy]; exact ih
theorem g4d {c c':Chart} (hI:Inv l c) (hI':Inv l c') (h:Late l c c') {k:Nat} (hk:k < l.length) (h1:a3t c.now (A3 c.dues k)=true)
  (h2:c'.dues[k]?=some 0∨∃ y,c'.dues[k]?=some y∧c.now < y):cnt c'.now c'.dues < cnt c.now c.dues:=by
 have hlen:c.dues.length=c'.dues.length:=by rw [hI.dues,hI'.dues]
 rw [h.now]
 have no0:a3t c.now 0=false:=rfl
 have noy:∀ y,c.now < y→a3t c.now y=false:=fun y hy=>by simp [a3t,A2,A0,leI,eqI]; omega
 refine f3o (k:=k) hlen (fun i x y hx hy hp=>?_) ?_
 ·rcases h.dues i with e | e | ⟨z,e1,e2,_⟩
  ·rw [hx,hy] at e; simp only [Option.some.injEq] at e; rw [← e]; exact hp
  ·rw [hy] at e; simp only [Option.some.injEq] at e; rw [e,no0] at hp; simp at hp
  ·rw [hy] at e1; simp only [Option.some.injEq] at e1; rw [e1,noy z e2] at hp; simp at hp
 ·have hkd:k < c.dues.length:=by rw [hI.dues]; exact hk
  rw [K4 hkd] at h1
  rcases h2 with e | ⟨y,e1,e2⟩
  ·exact ⟨c.dues[k],0,by simp [hkd],e,h1,no0⟩
  ·exact ⟨c.dues[k],y,by simp [hkd],e1,h1,noy y e2⟩
def DueOk (l:List Step) (c:Chart):Prop:=∀ i:Nat,i < l.length→A3 c.dues i≠0→dueK l i
theorem DueOk.late {c c':Chart} (h:DueOk l c) (hI:Inv l c) (hI':Inv l c') (g:Late l c c'):DueOk l c':=fun i hi hn=>by
 have h1:i < c.dues.length:=by rw [hI.dues]; exact hi
 have h2:i < c'.dues.length:=by rw [hI'.dues]; exact hi
 rw [K4 h2] at hn
 rcases g.dues i with e | e | ⟨y,_,_,e⟩
 ·simp only [h1,h2,List.getElem?_eq_getElem,Option.some.injEq] at e
  exact h i hi (by rw [K4 h1,← e]; exact hn)
 ·simp only [h2,List.getElem?_eq_getElem,Option.some.injEq] at e
  exact absurd e hn
 ·exact e
def a1h (l:List Step) (d:Nat) (c:Chart):Chart:=a0l (K3 l (A3 (A7 d 0 l) 0).toNat) { c with dues:=c.dues.set d 0 }
def a1j (l:List Step) (d:Nat) (c:Chart):Chart:=
 if eqI (A8 l d) 6=true then goX l false d c else goX l true (A3 (A7 d 0 l) 1).toNat (a1h l d c)
def a3c (l:List Step):Nat→Chart→Chart
 | 0,c=>c
 | f+1,c=>if eqI c.status 1=true then (if ltI (a8b c.dues c.now) 0=true then c else a3c l f (a1j l (a8b c.dues c.now).toNat c)) else c
theorem Wf.guard (w:Wf l) {k:Nat} (hk:k < l.length) (h:A8 l k=8):∃ a b:Nat,A3 (A7 k 0 l) 0=a∧A3 (A7 k 0 l) 1=b∧a < l.length∧b < l.length∧2≤(A7 k 0 l).length:=by
 have hn:=w.kidsN hk
 rw [h] at hn
 have e:M7 8=(2,2):=rfl
 rw [e] at hn
 simp only [inR,A2,leI,Bool.and_eq_true,decide_eq_true_eq] at hn
 obtain ⟨a,h1,h2,_⟩:=w.kid (a7b (show 0 < (A7 k 0 l).length by omega))
 obtain ⟨b,h3,h4,_⟩:=w.kid (a7b (show 1 < (A7 k 0 l).length by omega))
 exact ⟨a,b,h1,h3,h2,h4,by omega⟩
theorem c3b (w:Wf l) {c:Chart} (hI:Inv l c) (hd:DueOk l c) {d:Nat} (hdl:d < l.length) (h1:a3t c.now (A3 c.dues d)=true):
  Inv l (a1j l d c)∧DueOk l (a1j l d c)∧cnt (a1j l d c).now (a1j l d c).dues < cnt c.now c.dues∧(a1j l d c).now=c.now:=by
 have hn:A3 c.dues d≠0:=fun e=>by rw [e] at h1; simp [a3t,A2,A0,eqI] at h1
 have key:∀ {c':Chart},Inv l c'→Late l c c'→(c'.dues[d]?=some 0∨∃ y,c'.dues[d]?=some y∧c.now < y)→Inv l c'∧DueOk l c'∧cnt c'.now c'.dues < cnt c.now c.dues∧c'.now=c.now:=
  fun a b e=>⟨a,hd.late hI a b,g4d hI a b hdl h1 e,b.now⟩
 unfold a1j
 split
 ·exact key (e9p w _ _ _ hI hdl) (d6l w _ _ _ hI hdl) (g1a w d c hI hdl)
 ·rename_i q
  have h8:A8 l d=8:=by
   rcases hd d hdl hn with h | h
   ·exact absurd (by rw [h]; rfl) q
   ·exact h
  obtain ⟨a,b,e1,e2,e3,e4,_⟩:=w.guard hdl h8
  rw [e2,Int.toNat_natCast]
  have i1:Inv l (a1h l d c):=(hI.due d 0).idle _
  have l0:Late l c { c with dues:=c.dues.set d 0 }:=⟨rfl,fun i=>by
   simp only [List.getElem?_set]
   split
   ·split
    ·exact .inr (.inl rfl)
    ·rename_i e _; subst e; exact .inl (by rw [List.getElem?_eq_none (by omega)])
   ·exact .inl rfl⟩
  have l1:Late l c (a1h l d c):=l0.trans (.idle _)
  have l2:=d6l w true b _ i1 e4
  refine key (e9p w _ _ _ i1 e4) (l1.trans l2) ?_
  have hdd:d < c.dues.length:=by rw [hI.dues]; exact hdl
  have z:(a1h l d c).dues[d]?=some 0:=by
   rcases b8c (K3 l (A3 (A7 d 0 l) 0).toNat) (c.dues.set d 0) d with h | h
   ·have:(a1h l d c).dues[d]?=(c.dues.set d 0)[d]?:=h
    rw [this]; simp [hdd]
   ·exact h
  rcases l2.dues d with e | e | ⟨y,y1,y2,_⟩
  ·exact .inl (e.trans z)
  ·exact .inl e
  ·exact .inr ⟨y,y1,by rw [← l1.now]; exact y2⟩
end
attribute [local congr] K9
attribute [local simp] J8 K0 J0 J9 H3 J6 H4 G4 H5 G1 a1r a6b a9z
theorem d2w {l:List Step} {c:Chart}:∀ (f i:Nat),a0q l c f i=true→∀ k,i≤k→k < i+f→a6s l c k=true
 | 0,i,_,k,h1,h2=>by omega
 | f+1,i,h,k,h1,h2=>by
  unfold a0q at h
  split at h
  ·rename_i q
   rcases Nat.lt_or_ge i k with h' | h'
   ·exact d2w f (i+1) h k h' (by omega)
   ·have:k=i:=by omega
    rw [this]; exact q
  ·simp at h
theorem f3p {l:List Step} {c:Chart} (h:chartM l c=0):DueOk l c:=by
 have ha:=b9u h
 obtain ⟨_,_,_,_,z5,z6⟩:=b5p ha
 unfold chartM at h
 rw [ha] at h
 simp only [show A0 (eqI 0 0)=false from rfl,Bool.false_eq_true,if_false] at h
 split at h
 ·simp at h
 have ho:=b1y (by omega) h
 have ho:b1a l c=true:=by cases e:b1a l c <;> simp [e,A0] at ho ⊢
 intro i hi hn
 unfold b1a at ho
 split at ho
 ·simp only [A2,Bool.and_eq_true] at ho
  have h2:=ho.2
  simp only [smS,A0,Bool.not_eq_true',b0d] at h2
  rw [List.any_eq_false] at h2
  have:=h2 (A3 c.dues i) (a7b (by omega))
  simp [a1m,A0,inR,A2,leI] at this
  omega
 ·split at ho
  ·rename_i q
   have hf:=d2w l.length 0 q i (Nat.zero_le _) (by omega)
   have hd:A0 (eqI (A3 c.dues i) 0)=true:=by simp [A0,eqI,hn]
   unfold a6s at hf
   rw [hd] at hf
   split at hf
   ·simp at hf
   split at hf
   ·simp [A2,eqI,hn] at hf
   ·unfold a2l at hf
    split at hf
    ·split at hf <;> simp [eqB] at hf
    split at hf
    ·split at hf <;> simp [eqB] at hf
    split at hf
    ·rename_i q8
     exact .inr (by simpa [eqI] using q8)
    split at hf
    ·rename_i q6
     exact .inl (by simpa [eqI] using q6)
    split at hf
    ·simp at hf
    ·simp [eqB] at hf
  ·simp at ho
theorem h5c (dues:List Int) (hd:dues.length < 2 ^ 62) (now:Int):fo 198 [A (iS dues),A (vI now)]=some (R (vI (a8b dues now))):=by
 have h:=a4e (σ:=Int) (f:=198) (id:=0) (code:=B3 Tryz.f198 0) dues (fun _ d=>d=-1∨∃ k:Nat,d=k∧k < dues.length)
  (fun i d=>⟨37,[(0,iS dues),(1,vI now),(5,vI d),(8,iS dues),(9,vI dues.length),(10,vI i)],[],2⟩) (fun (i:Nat) (d:Int) (x:Int)=>if a8a now dues d x=true then (i:Int) else d)
  (fun d=>⟨37,[(0,iS dues),(1,vI now),(5,vI d),(8,iS dues),(9,vI dues.length),(10,vI dues.length),(11,vB false)],[],2⟩)
 have h2:=h ?_ ?_ (-1) (.inl rfl)
 ·refine g8q (dues.length+1) ?_
  simp -dsimp [Tryz.f198] at h2
  simp (maxSteps:=1000000) +contextual -dsimp [Tryz.f198,h2,a8b]
 ·intro k d _
  have hlt:=a2m dues.length
  simp +contextual -dsimp [Tryz.f198,hlt]
 ·intro k i d hi hI
  have hlt:=O4 hi
  have hw:=N6 hi hd
  generalize hs:((i+1:Nat):Int)=i1 at *
  refine ⟨?_,?_⟩
  ·rcases hI with rfl | ⟨j,rfl,hj⟩
   ·have e:ltI (-1) 0=true:=rfl
    unfold a8a
    rw [e]
    cases q1:eqI dues[i] 0 <;> cases q2:leI dues[i] now <;>
     simp (maxSteps:=1000000) +contextual -dsimp [Tryz.f198,hlt,hi,hw,hs,q1,q2,e]
   ·have e:ltI (j:Int) 0=false:=B7 (by omega)
    unfold a8a
    rw [e,K4 hj]
    cases q1:eqI dues[i] 0 <;> cases q2:leI dues[i] now <;> cases q3:ltI dues[i] dues[j] <;>
     simp (maxSteps:=1000000) +contextual -dsimp [Tryz.f198,hlt,hi,hj,hw,hs,q1,q2,q3,e]
  ·split
   ·exact .inr ⟨i,rfl,hi⟩
   ·exact hI
theorem h1i (c:Chart) (hd:c.dues.length < 2 ^ 62):fo 195 [A (.ipt (cT c))]=some (R (vI (a8b c.dues c.now))):=by
 have h:=a4e (σ:=Int) (f:=195) (id:=0) (code:=B3 Tryz.f195 0) c.dues (fun _ d=>d=-1∨∃ k:Nat,d=k∧k < c.dues.length)
  (fun i d=>⟨59,[(0,.ipt (cT c)),(3,vI d),(4,vI i)],[],2⟩) (fun (i:Nat) (d:Int) (x:Int)=>if a8a c.now c.dues d x=true then (i:Int) else d)
  (fun d=>⟨59,[(0,.ipt (cT c)),(3,vI d),(4,vI c.dues.length),(11,vB false)],[],2⟩)
 have h2:=h ?_ ?_ (-1) (.inl rfl)
 ·refine g8n (c.dues.length+1) ?_
  simp -dsimp [Tryz.f195] at h2
  simp (maxSteps:=1000000) +contextual -dsimp [Tryz.f195,h2,a8b]
 ·intro k d _
  have hlt:=a2m c.dues.length
  simp +contextual -dsimp [Tryz.f195,hlt]
 ·intro k i d hi hI
  have hlt:=O4 hi
  have hw:=N6 hi hd
  generalize hs:((i+1:Nat):Int)=i1 at *
  refine ⟨?_,?_⟩
  ·rcases hI with rfl | ⟨j,rfl,hj⟩
   ·have e:ltI (-1) 0=true:=rfl
    unfold a8a
    rw [e]
    cases q1:eqI c.dues[i] 0 <;> cases q2:leI c.dues[i] c.now <;>
     simp (maxSteps:=1000000) +contextual -dsimp [Tryz.f195,hlt,hi,hw,hs,q1,q2,e]
   ·have e:ltI (j:Int) 0=false:=B7 (by omega)
    unfold a8a
    rw [e,K4 hj]
    cases q1:eqI c.dues[i] 0 <;> cases q2:leI c.dues[i] c.now <;> cases q3:ltI c.dues[i] c.dues[j] <;>
     simp (maxSteps:=1000000) +contextual -dsimp [Tryz.f195,hlt,hi,hj,hw,hs,q1,q2,q3,e]
  ·split
   ·exact .inr ⟨i,rfl,hi⟩
   ·exact hI
abbrev f5v:List T:=[vI 0,vI 0,vI 0,.own 2 [],.own 2 [],.own 2 []]
theorem d6m {l:List Step} (w:Wf l) {d:Nat} (hd:d < l.length) (h8:A8 l d=8):∃ (a b:Nat) (r:List Int),A7 d 0 l=(a:Int)::(b:Int)::r∧a < l.length∧b < l.length:=by
 obtain ⟨a,b,e1,e2,h1,h2,h3⟩:=w.guard hd h8
 generalize A7 d 0 l=ks at *
 match ks,h3 with
 | x::y::r,_=>exact ⟨a,b,r,by rw [← e1,← e2]; rfl,h1,h2⟩
theorem f3q {l:List Step} {c:Chart} (hd:DueOk l c) {d:Nat} (hdl:d < l.length) (h1:a3t c.now (A3 c.dues d)=true) (q:eqI (A8 l d) 6=false):A8 l d=8:=by
 have hn:A3 c.dues d≠0:=fun e=>by rw [e] at h1; simp [a3t,A2,A0,eqI] at h1
 rcases hd d hdl hn with h | h
 ·rw [h] at q; simp [eqI] at q
 ·exact h
def h3u (l:List Step) (now:Int) (c:Chart) (st:St):Prop:=∃ x,(x=[(41,vB false)]∨∃ d,x=[(9,vI d),(50,vB true)])∧
 st=⟨85,[(0,.sl 124 (l.map (sT 219))),(2,vI now),(6,.ptr 6 1 [] 0),(8,.ptr 30 1 [] 0)]++x,[(6,⟨1,1,true,f5v⟩),(30,⟨1,1,true,bO l c⟩)],2⟩
theorem f4x {l:List Step} (w:Wf l) (now:Int):∀ (f:Nat) (c:Chart),Inv l c→DueOk l c→c.now=now→cnt c.now c.dues < f→
  ∃ st,A5 E (orc E) (132:Nat) f (B3 Tryz.f132 0) ⟨85,[(0,.sl 124 (l.map (sT 219))),(2,vI now),(6,.ptr 6 1 [] 0),(8,.ptr 30 1 [] 0)],[(6,⟨1,1,true,f5v⟩),(30,⟨1,1,true,bO l c⟩)],2⟩=some (.exit 0,st)∧h3u l now (a3c l f c) st
 | 0,c,_,_,_,h=>by omega
 | f+1,c,hI,hD,hn,hc=>by
  have hle:=w.ok.le
  unfold a3c
  cases q1:eqI c.status 1
  ·rw [if_neg (by simp)]
   refine ⟨_,D6 ?_ (by simp),_,.inl rfl,rfl⟩
   simp (maxSteps:=1000000) +contextual -dsimp [Tryz.f132,q1,List.set]
  ·rw [if_pos rfl]
   have g1:=h5c c.dues (by rw [hI.dues]; omega) now
   rw [hn]
   rcases c1i c.dues now with e | ⟨d,e,hd,hdue⟩
   ·rw [e] at g1 ⊢
    have e1:ltI (-1) 0=true:=rfl
    rw [e1,if_pos rfl]
    refine ⟨_,D6 ?_ (by simp),_,.inr ⟨-1,rfl⟩,rfl⟩
    simp (maxSteps:=1000000) +contextual -dsimp [Tryz.f132,q1,g1,e1,List.set]
   ·rw [e] at g1 ⊢
    have e1:ltI (d:Int) 0=false:=B7 (by omega)
    rw [e1,if_neg (by simp),Int.toNat_natCast]
    have hdl:d < l.length:=by rw [← hI.dues]; exact hd
    rw [← hn] at hdue
    obtain ⟨t1,t2,t3,t4⟩:=c3b w hI hD hdl hdue
    obtain ⟨st,ih1,ih2⟩:=f4x w now f (a1j l d c) t1 t2 (t4.trans hn) (by omega)
    refine ⟨st,?_,ih2⟩
    refine C0 ?_ ih1
    have hk:=a8k hdl
    cases q6:eqI (A8 l d) 6
    ·have h8:=f3q hD hdl hdue q6
     obtain ⟨a,b,r,hks,ha,hb⟩:=d6m w hdl h8
     have gk:=b2f l (by omega) d
     have i0:Inv l { c with dues:=c.dues.set d 0 }:=hI.due d 0
     have i1:Inv l (a1h l d c):=i0.idle _
     have s0:A3 (A7 d 0 l) 0=a:=by rw [hks]; rfl
     have s1:A3 (A7 d 0 l) 1=b:=by rw [hks]; rfl
     have g2:=f4c w { c with dues:=c.dues.set d 0 } i0.acts i0.dues a ha
     have eg:a0l (K3 l a) { c with dues:=c.dues.set d 0 }=a1h l d c:=by unfold a1h; rw [s0]; rfl
     rw [eg] at g2
     obtain ⟨g3,_⟩:=g0y w i1 b hb
     have et:a1j l d c=goX l true b (a1h l d c):=by unfold a1j; rw [q6,if_neg (by simp),s1]; rfl
     rw [et]
     generalize goX l true b (a1h l d c)=c2 at *
     generalize a1h l d c=c1 at *
     simp only [aB,bO,RB,iE,List.map_set] at g2
     rw [hks] at gk
     rw [hk] at q6
     generalize A7 d 0 l=ks at *
     subst hks
     simp (maxSteps:=1000000) +contextual -dsimp [Tryz.f132,q1,g1,e1,hdl,q6,gk,hd,g2,g3,List.set]
    ·obtain ⟨g2,_⟩:=g4a w hI d hdl
     have et:a1j l d c=goX l false d c:=by unfold a1j; rw [q6,if_pos rfl]
     rw [et]
     rw [hk] at q6
     generalize goX l false d c=c1 at *
     simp (maxSteps:=1000000) +contextual -dsimp [Tryz.f132,q1,g1,e1,hdl,q6,g2,List.set]
def b2p (l:List Step) (c:Chart) (now:Int):Int:=C4 (chartM l c) (ci (A0 (inR now c.now 1000000)) 3)
def b8m (l:List Step) (c:Chart) (now:Int):Int × Chart:=if A0 (eqI (b2p l c now) 0)=true then (b2p l c now,noC) else (0,a3c l 30 { c with now:=now })
theorem c3c {l:List Step} {c:Chart} {now:Int} (hI:Inv l c) (hd:DueOk l c) (h1:c.now≤now) (h2:now≤1000000):Inv l { c with now:=now }∧DueOk l { c with now:=now }:=
 ⟨⟨hI.vars,hI.acts,hI.dues,by have:=hI.now0; show 0≤now; omega,h2,hI.rng⟩,hd⟩
theorem e9q {l:List Step} (w:Wf l) {c:Chart} (hI:Inv l c):cnt c.now c.dues < 30:=by
 have h1:cnt c.now c.dues≤c.dues.length:=List.countP_le_length
 have:=hI.dues
 have:=w.ok.le
 omega
theorem f7x (l:List Step) (hl:l.length < 2 ^ 62) (hf:∀ s,s∈l→FitS s) (c:Chart) (hc:FitC c) (now:Int):
  fo 132 [A (.sl 124 (l.map (sT 219))),A (.agg (cT c)),A (vI now)]=some (RR (b8m l c now)):=by
 have g1:=c8o l hl hf c hc
 have g3:=a0b (chartM l c) (ci (A0 (inR now c.now 1000000)) 3)
 rw [show C4 (chartM l c) (ci (A0 (inR now c.now 1000000)) 3)=b2p l c now from rfl] at g3
 unfold b8m
 cases q:eqI (b2p l c now) 0
 ·refine d9u 1 ?_
  simp (maxSteps:=1000000) +contextual -dsimp [Tryz.f132,g1,g3,D7,P5,q,noC,List.set]
 ·have q0:b2p l c now=0:=by simpa [eqI] using q
  obtain ⟨z1,z2⟩:=a0a q0
  have z2:=b1y (by omega) z2
  have z2:inR now c.now 1000000=true:=by cases e:inR now c.now 1000000 <;> simp [e,A0] at z2 ⊢
  simp only [inR,A2,leI,Bool.and_eq_true,decide_eq_true_eq] at z2
  obtain ⟨hI,w,_,_⟩:=f3n z1
  obtain ⟨i1,d1⟩:=c3c hI (f3p z1) z2.1 z2.2
  obtain ⟨st,h1,x,hx,rfl⟩:=f4x w now 30 _ i1 d1 rfl (e9q w i1)
  have g5:=d6k c (hI.few w)
  have q1:eqI 0 0=true:=rfl
  rw [q0] at g3
  have n0:A0 true=false:=rfl
  rw [n0,if_neg (by simp)]
  generalize a3c l 30 { c with now:=now }=c' at *
  simp -dsimp [Tryz.f132] at h1
  refine d9u 30 ?_
  rcases hx with rfl | ⟨d,rfl⟩ <;> simp (maxSteps:=1000000) +contextual -dsimp [Tryz.f132,g1,g3,g5,h1,D7,P5,q1,List.set]
theorem f4y {l:List Step} (w:Wf l):∀ (f:Nat) (c:Chart),Inv l c→DueOk l c→cnt c.now c.dues < f→
  ∃ ex st,A5 E (orc E) (130:Nat) f (B3 Tryz.f130 0) ⟨52,[(0,.sl 124 (l.map (sT 219))),(1,.ptr 1 0 [] 0)],[(1,⟨0,0,true,cO c⟩)],2⟩=some (ex,st)∧(ex=.exit 0∧st=⟨52,[(0,.sl 124 (l.map (sT 219))),(1,.ptr 1 0 [] 0),(16,vB false)],[(1,⟨0,0,true,cO (a3c l f c)⟩)],2⟩∨
   ex=.ret∧∃ d,st=⟨52,[(0,.sl 124 (l.map (sT 219))),(1,.ptr 1 0 [] 0),(6,vI d),(20,vB true)],[(1,⟨0,0,true,cO (a3c l f c)⟩)],2⟩)
 | 0,c,_,_,h=>by omega
 | f+1,c,hI,hD,hc=>by
  have hle:=w.ok.le
  unfold a3c
  cases q1:eqI c.status 1
  ·rw [if_neg (by simp)]
   refine ⟨_,_,D6 ?_ (by simp),.inl ⟨rfl,rfl⟩⟩
   simp (maxSteps:=1000000) +contextual -dsimp [Tryz.f130,q1,List.set]
  ·rw [if_pos rfl]
   have g1:=h1i c (by rw [hI.dues]; omega)
   rcases c1i c.dues c.now with e | ⟨d,e,hd,hdue⟩
   ·rw [e] at g1 ⊢
    have e1:ltI (-1) 0=true:=rfl
    rw [e1,if_pos rfl]
    refine ⟨_,_,D6 ?_ (by simp),.inr ⟨rfl,-1,rfl⟩⟩
    simp (maxSteps:=1000000) +contextual -dsimp [Tryz.f130,q1,g1,e1,List.set]
   ·rw [e] at g1 ⊢
    have e1:ltI (d:Int) 0=false:=B7 (by omega)
    rw [e1,if_neg (by simp),Int.toNat_natCast]
    have hdl:d < l.length:=by rw [← hI.dues]; exact hd
    obtain ⟨t1,t2,t3,t4⟩:=c3b w hI hD hdl hdue
    obtain ⟨ex,st,ih1,ih2⟩:=f4y w f (a1j l d c) t1 t2 (by omega)
    refine ⟨ex,st,?_,ih2⟩
    refine C0 ?_ ih1
    have hk:=a8k hdl
    cases q6:eqI (A8 l d) 6
    ·have h8:=f3q hD hdl hdue q6
     obtain ⟨a,b,r,hks,ha,hb⟩:=d6m w hdl h8
     have gk:=a8n l (by omega) d
     rw [← a4d w.ok] at gk
     have i0:Inv l { c with dues:=c.dues.set d 0 }:=hI.due d 0
     have i1:Inv l (a1h l d c):=i0.idle _
     have s0:A3 (A7 d 0 l) 0=a:=by rw [hks]; rfl
     have s1:A3 (A7 d 0 l) 1=b:=by rw [hks]; rfl
     have g2:=d7z w { c with dues:=c.dues.set d 0 } i0.acts i0.dues a ha
     have eg:a0l (K3 l a) { c with dues:=c.dues.set d 0 }=a1h l d c:=by unfold a1h; rw [s0]; rfl
     rw [eg] at g2
     have g3:=f9h w i1 b hb
     have et:a1j l d c=goX l true b (a1h l d c):=by unfold a1j; rw [q6,if_neg (by simp),s1]; rfl
     rw [et]
     generalize goX l true b (a1h l d c)=c2 at *
     generalize a1h l d c=c1 at *
     simp only [aC,cO,RC,iE,List.map_set] at g2
     rw [hks] at gk
     rw [hk] at q6
     generalize A7 d 0 l=ks at *
     subst hks
     simp (maxSteps:=1000000) +contextual -dsimp [Tryz.f130,q1,g1,e1,hdl,q6,gk,hd,g2,g3,List.set]
    ·have g2:=g0z w hI d hdl
     have et:a1j l d c=goX l false d c:=by unfold a1j; rw [q6,if_pos rfl]
     rw [et]
     rw [hk] at q6
     generalize goX l false d c=c1 at *
     simp (maxSteps:=1000000) +contextual -dsimp [Tryz.f130,q1,g1,e1,hdl,q6,g2,List.set]
theorem g4e {l:List Step} (w:Wf l) (c:Chart) (hI:Inv l c) (hD:DueOk l c) (now:Int) (h1:c.now≤now) (h2:now≤1000000):
  fo 130 [A (.sl 124 (l.map (sT 219))),aC c,A (vI now)]=some (RC (a3c l 30 { c with now:=now })):=by
 obtain ⟨i1,d1⟩:=c3c hI hD h1 h2
 obtain ⟨ex,st,h,hx⟩:=f4y w 30 _ i1 d1 (e9q w i1)
 generalize a3c l 30 { c with now:=now }=c' at *
 refine g7q 30 ?_
 rcases hx with ⟨rfl,rfl⟩ | ⟨rfl,d,rfl⟩ <;> (simp -dsimp [Tryz.f130] at h; simp (maxSteps:=1000000) +contextual -dsimp [Tryz.f130,h,List.set])
structure Act where
 kind:Int
 at_:Int
 vars:List Int
theorem d2x {l:List Step} (w:Wf l):∀ (f:Nat) (c:Chart),Inv l c→DueOk l c→Inv l (a3c l f c)
 | 0,c,h,_=>h
 | f+1,c,h,hD=>by
  unfold a3c
  split
  ·split
   ·exact h
   ·rename_i e
    rcases c1i c.dues c.now with q | ⟨d,q,hd,hdue⟩
    ·rw [q] at e; exact absurd rfl e
    ·rw [q,Int.toNat_natCast]
     obtain ⟨t1,t2,_,_⟩:=c3b w h hD (by rw [← h.dues]; exact hd) hdue
     exact d2x w f _ t1 t2
  ·exact h
end Go.TM.Ft
namespace Go.TM.Ft
open Go Go.TM
structure EngR where
 code:Int
 value:Int
 eng:Engine
abbrev erT (p:EngR):List T:=[vI p.code,vI p.value,.sl 160 (p.eng.procs.map (pT 124 219)),.sl 163 (p.eng.insts.map xT),vI p.eng.now]
open Go Go.TM Go.Proofs
set_option maxRecDepth 20000
attribute [local congr] K9
attribute [local simp] J8 K0 J0 J9 H3 J6 H4 G4 H5 G1
theorem g1b (e:Engine) (x:Inst):a6q e x=a4q e x:=by
 unfold a6q a4q b0c
 rw [f9w]
 cases inR x.proc 0 ((e.procs.length:Int) - 1)
 ·rfl
 ·by_cases h:chartM (stepsOf e x) x.chart=0
  ·rw [h]
   cases eqI x.chart.now e.now <;> rfl
  ·have:eqI (chartM (stepsOf e x) x.chart) 0=false:=by simp [eqI,h]
   simp [A0,C4,this]
theorem d0u (e:Engine):∀ l,a2x e l=U0 e l
 | []=>rfl
 | x::l=>by
  unfold a2x U0
  rw [g1b,d0u e l]
theorem d0v:∀ l,a2w l=a2z l
 | []=>rfl
 | x::l=>by
  unfold a2w a2z
  rw [c0p,d0v l]
theorem f7y (l:List (List Step)):a8u l=a4m l:=by
 unfold a8u a4m
 rw [d0v]
 by_cases h:1≤l.length∧l.length≤3
 ·rw [if_neg (by simp [orB,ltI]; omega),if_neg (by simp [A0,inR,A2,leI]; omega)]
 ·rw [if_pos (by simp [orB,ltI]; omega),if_pos (by simp [A0,inR,A2,leI]; omega)]
theorem g4f (e:Engine):b8o e=a1o e:=by
 unfold b8o a1o a9n
 rw [d0u,f7y]
 cases q1:ltI 6 e.insts.length
 ·by_cases q2:a4m e.procs=0
  ·have q3:inR e.procs.length 1 3=true:=by
    unfold a4m at q2
    split at q2
    ·simp at q2
    ·rename_i c; simpa [A0] using c
   rw [q2,q3]
   cases inR e.now 0 1000000 <;> rfl
  ·have e0:eqI (a4m e.procs) 0=false:=by simp [eqI,q2]
   have e1:C4 (a4m e.procs) (ci (A0 (inR e.now 0 1000000)) 3)=a4m e.procs:=by simp [C4,e0]
   rw [e1,e0]
   cases q3:inR e.procs.length 1 3
   ·unfold a4m; rw [q3]; rfl
   ·rfl
 ·cases inR e.procs.length 1 3 <;> rfl
end Go.TM.Ft
namespace Go.TM.Ft
open Go Go.TM Go.Proofs
abbrev eTl (e:Engine):List T:=[.sl 225 (e.procs.map (pT 111 267)),.sl 229 (e.insts.map xT),vI e.now]
end Go.TM.Ft
