/- What functions of the program come to, by the machine. -/
import Derived.Test.YtlmiemdojgahaaaGreatKL11
import Derived.Test.YtlmiemdojgahaaaGreatKL4
import Derived.Test.YtlmiemdojgahaaaGreatKL8
set_option linter.unusedSimpArgs false
set_option linter.unusedVariables false
set_option maxHeartbeats 2000000
namespace Go.TM.Ft
open Go Go.TM Go.Proofs Go.Proofs.Tryz
set_option maxRecDepth 20000
section
variable {l:List Step}
theorem e0o (a:Nat):∀ (f i:Nat),(M3 l a f i).length≤f
 | 0,_=>by simp [M3]
 | f+1,i=>by
  unfold M3
  split
  ·have:=e0o a f (i+1); simp; omega
  ·simp
theorem d6o (w:Wf l) (a:Nat):∀ (f i:Nat),i+f=l.length→a < i→Und l a (i - 1)→∀ j,i≤j→j < i+(M3 l a f i).length→Und l a j
 | 0,i,_,_,_,j,h1,h2=>by simp [M3] at h2; omega
 | f+1,i,h,hai,hu,j,h1,h2=>by
  unfold M3 at h2
  split at h2
  ·rename_i c
   have hi:i < l.length:=by omega
   have hd:dep l a < dep l i:=by simp [A1,ltI] at c; exact c.2
   have hui:=w.piece2 hi hai hu hd
   rcases Nat.lt_or_ge i j with h' | h'
   ·simp only [List.length_cons] at h2
    exact d6o w a f (i+1) (by omega) (by omega) (by simpa using hui) j h' (by omega)
   ·have:j=i:=by omega
    rw [this]; exact hui
  ·simp at h2; omega
theorem d6p (w:Wf l) (a:Nat):∀ (f i m:Nat),i+f=l.length→a < i→m < l.length→(∀ j,i≤j→j≤m→Und l a j)→m+1≤i+(M3 l a f i).length
 | 0,i,m,h,_,hm,_=>by omega
 | f+1,i,m,h,hai,hm,hu=>by
  rcases Nat.lt_or_ge m i with h' | h'
  ·omega
  ·have hi:i < l.length:=by omega
   have hui:=hu i (Nat.le_refl _) h'
   have hd:=(w.piece hi hui hai).2
   have hc:A1 (ltI (i:Int) l.length) (ltI (dep l a) (dep l i))=true:=by simp [A1,ltI]; exact ⟨by omega,hd⟩
   unfold M3
   rw [if_pos hc]
   have:=d6p w a f (i+1) m (by omega) (by omega) hm (fun j h1 h2=>hu j (by omega) h2)
   simp; omega
def en (l:List Step) (k:Nat):Nat:=k+(M3 l k (l.length - (k+1)) (k+1)).length
theorem g2h (k:Nat):k≤en l k:=by unfold en; omega
theorem c0e {k:Nat} (hk:k < l.length):en l k < l.length:=by
 have:=e0o (l:=l) k (l.length - (k+1)) (k+1)
 unfold en; omega
theorem c7y (w:Wf l) {k j:Nat} (hk:k < l.length) (h1:k≤j) (h2:j≤en l k):Und l k j:=by
 rcases Nat.lt_or_ge k j with h | h
 ·exact d6o w k (l.length - (k+1)) (k+1) (by omega) (by omega) (by simpa using Und.self) j (by omega) (by unfold en at h2; omega)
 ·have:j=k:=by omega
  rw [this]; exact .self
theorem i4k (w:Wf l) {k j:Nat} (hk:k < l.length) (hj:j < l.length) (hu:Und l k j):j≤en l k:=by
 rcases Nat.lt_or_ge k j with h | h
 ·have:=d6p w k (l.length - (k+1)) (k+1) j (by omega) (by omega) hj (fun i h1 h2=>w.between hj hu (j - i) i (by omega) (by omega))
  unfold en; omega
 ·unfold en; omega
theorem i6c (w:Wf l) {k p:Nat} (hk:k < l.length) (hp:parOf l k=(p:Int)) (hpk:p < k):en l k≤en l p:=
 i4k w (by omega) (c0e hk) ((Und.up hk hp hpk .self).trans (c7y w hk (g2h k) (Nat.le_refl _)))
theorem i1e (w:Wf l) {k s p:Nat} (hk:k < l.length) (hs:s < l.length) (hks:k < s) (hp:parOf l s=(p:Int)) (hpk:p < k):en l k < s:=by
 rcases Nat.lt_or_ge (en l k) s with h | h
 ·exact h
 ·have hu:=c7y w hk (Nat.le_of_lt hks) h
  have:=(hu.down (by omega) hp).le
  omega
theorem i1f (w:Wf l) {k:Nat} (hk:k < l.length) (h:A7 k 0 l=[]):en l k=k:=by
 rcases Nat.lt_or_ge k (en l k) with h1 | h1
 ·exfalso
  have hu:=c7y w hk (Nat.le_succ k) h1
  have hk1:k+1 < l.length:=by have:=c0e hk; omega
  obtain ⟨q,h2,h3⟩:=w.par hk1 (by omega)
  have:=(hu.down (by omega) h2).le
  have e:q=k:=by omega
  rw [e] at h2
  have:=w.kid_of hk1 h2
  rw [h] at this; simp at this
 ·have:=g2h (l:=l) k; omega
theorem d1x {p:Int}:∀ (r:List Step) (i:Nat),(B9 p i r).Pairwise (· < ·)∧∀ x,x∈B9 p i r→(i:Int)≤x
 | [],i=>by simp [B9]
 | s::r,i=>by
  obtain ⟨h1,h2⟩:=d1x (p:=p) r (i+1)
  unfold B9
  split
  ·refine ⟨List.pairwise_cons.2 ⟨fun x hx=>by have:=h2 x hx; omega,h1⟩,fun x hx=>?_⟩
   rcases List.mem_cons.1 hx with rfl | hx
   ·omega
   ·have:=h2 x hx; omega
  ·exact ⟨h1,fun x hx=>by have:=h2 x hx; omega⟩
def mu (l:List Step):Bool→Nat→Nat
 | true,k=>(l.length - k)*26+25
 | false,k=>(l.length - en l k)*26+k
theorem d6q {go:Bool→Nat→Chart→Option Chart}:∀ (ks:List Int) (c:Chart),(∀ x,x∈ks→∀ c,∃ c',go true x.toNat c=some c')→∃ c',a3y go ks c=some c'
 | [],c,_=>⟨c,rfl⟩
 | k::r,c,h=>by
  obtain ⟨c1,h1⟩:=h k (by simp) c
  obtain ⟨c2,h2⟩:=d6q r c1 (fun x hx=>h x (by simp [hx]))
  exact ⟨c2,by simp only [a3y,h1,h2]⟩
theorem c2h (l:List Step) (vars:List Int):∀ (ks:List Int),D5 l vars ks=-1∨D5 l vars ks=-2∨D5 l vars ks∈ks
 | []=>.inr (.inl rfl)
 | x::r=>by
  have ih:=c2h l vars r
  unfold D5 a5w
  split
  ·split
   ·exact .inl rfl
   ·split
    ·exact .inr (.inr (by simp))
    ·rcases ih with h | h | h
     ·exact .inl h
     ·exact .inr (.inl h)
     ·exact .inr (.inr (by simp [h]))
  ·exact .inr (.inr (by simp))
theorem Wf.kid0 (w:Wf l) {k:Nat} (hk:k < l.length) (h:A9 l k=1∨A9 l k=8):∃ a:Nat,A4 (A7 k 0 l) 0=a∧a < l.length∧k < a:=by
 have hn:=w.kidsN hk
 have hpos:0 < (A7 k 0 l).length:=by rcases h with h | h <;> rw [h] at hn <;> simp [N8,eqI,inR,A1,leI] at hn <;> omega
 have hm:=a7o hpos
 obtain ⟨a,h1,h2,h3,_⟩:=w.kid hm
 exact ⟨a,h1,h2,h3⟩
theorem h2t (w:Wf l) (f k:Nat) (hk:k < l.length) (hm:mu l true k < f+1) (ent:∀ (a:Nat) (c:Chart),a < l.length→k < a→∃ c',goC l f true a c=some c') (c:Chart)
  (ovr:∀ c,mu l false k < f→∃ c',goC l f false k c=some c'):∃ c',a8r (goC l f) l k c=some c':=by
  unfold a8r
  split
  ·rename_i q
   obtain ⟨a,h1,h2,h3⟩:=w.kid0 hk (.inl (by simpa [eqI] using q))
   rw [h1,Int.toNat_natCast]
   exact ent a _ h2 h3
  split
  ·refine d6q _ _ fun x hx c=>?_
   obtain ⟨a,h1,h2,h3,_⟩:=w.kid hx
   rw [h1,Int.toNat_natCast]
   exact ent a _ h2 h3
  split
  ·split
   ·exact ⟨_,rfl⟩
   ·rename_i n1
    split
    ·exact ⟨_,rfl⟩
    ·rename_i n2
     rcases c2h l _ (A7 k 0 l) with h | h | h
     ·exact absurd (by rw [h]; rfl) n1
     ·exact absurd (by rw [h]; rfl) n2
     ·obtain ⟨a,h1,h2,h3,_⟩:=w.kid h
      rw [h1,Int.toNat_natCast]
      exact ent a _ h2 h3
  split
  ·rename_i q
   obtain ⟨a,h1,h2,h3⟩:=w.kid0 hk (.inr (by simpa [eqI] using q))
   rw [h1,Int.toNat_natCast]
   exact ent a _ h2 h3
  split
  ·exact ⟨_,rfl⟩
  split
  ·rename_i q
   have h7:A9 l k=7:=by simpa [eqI] using q
   have hn:=w.kidsN hk
   rw [h7] at hn
   have h0:A7 k 0 l=[]:=by
    have e:N8 7=(0,0):=rfl
    rw [e] at hn
    simp only [inR,A1,leI,Bool.and_eq_true,decide_eq_true_eq] at hn
    exact List.length_eq_zero_iff.1 (by omega)
   split
   ·exact ⟨_,rfl⟩
   ·refine ovr _ ?_
    simp only [mu,i1f w hk h0] at hm ⊢
    have:=w.ok.le
    omega
  ·exact ⟨_,rfl⟩
theorem b5h (w:Wf l):∀ (f:Nat) (b:Bool) (k:Nat) (c:Chart),k < l.length→mu l b k < f→∃ c',goC l f b k c=some c'
 | 0,_,_,_,_,h=>by omega
 | f+1,true,k,c,hk,hm=>by
  have ent:∀ (a:Nat) (c:Chart),a < l.length→k < a→∃ c',goC l f true a c=some c':=fun a c ha hka=>b5h w f true a c ha (by simp only [mu] at hm ⊢; omega)
  unfold goC
  by_cases q0:eqI c.status 1=true
  ·rw [if_pos q0]
   exact h2t w f k hk hm ent _ (fun c=>b5h w f false k c hk)
  ·rw [if_neg q0]; exact ⟨c,rfl⟩
 | f+1,false,k,c,hk,hm=>by
  unfold goC a9x
  split
  ·exact ⟨_,rfl⟩
  rename_i q0
  have hk0:0 < k:=by
   rcases Nat.eq_zero_or_pos k with e | e
   ·subst e; exact absurd rfl q0
   ·exact e
  obtain ⟨p,hp,hpk⟩:=w.par hk hk0
  have hpl:p < l.length:=by omega
  rw [hp,Int.toNat_natCast]
  have hen:=i6c w hk hp hpk
  have hel:=c0e hpl
  have ovr:∀ c,∃ c',goC l f false p c=some c':=fun c=>b5h w f false p c hpl (by simp only [mu] at hm ⊢; omega)
  unfold b6k
  split
  ·split
   ·rename_i q2
    have hmem:=w.kid_of hk hp
    obtain ⟨j,e1,e2,e3⟩:=b4p hmem
    have ej:(j:Int)+1=((j+1:Nat):Int):=by omega
    rw [e1,ej] at q2 ⊢
    have hj:j+1 < (A7 p 0 l).length:=by simp [ltI] at q2; omega
    obtain ⟨s,h1,h2,h3,h4⟩:=w.kid (a7o hj)
    rw [h1,Int.toNat_natCast]
    have hks:k < s:=by
     have hs:=(d1x (p:=(p:Int)) l 0).1
     rw [← a5e w.ok] at hs
     have:=List.pairwise_iff_getElem.1 hs j (j+1) e2 hj (by omega)
     rw [← K8 e2,← K8 hj,e3,h1] at this
     omega
    have hns:=i1e w hk h2 hks h4 hpk
    refine b5h w f true s _ h2 ?_
    have:=c0e hk
    simp only [mu] at hm ⊢
    omega
   ·exact ovr _
  split
  ·split
   ·exact ⟨_,rfl⟩
   ·exact ovr _
  ·exact ovr _
theorem i6d (w:Wf l) (b:Bool) (k:Nat) (hk:k < l.length):mu l b k < 700:=by
 have:=w.ok.le
 cases b <;> simp only [mu] <;> omega
def goX (l:List Step) (b:Bool) (k:Nat) (c:Chart):Chart:=(goC l 700 b k c).getD c
theorem b5u (w:Wf l) (b:Bool) (k:Nat) (c:Chart) (hk:k < l.length):goC l 700 b k c=some (goX l b k c):=by
 obtain ⟨c',h⟩:=b5h w 700 b k c hk (i6d w b k hk)
 unfold goX
 rw [h]; rfl
theorem h2u (w:Wf l) {c:Chart} (hI:Inv l c) (k:Nat) (hk:k < l.length):fo 193 [aB l c,A (vI k)]=some (RB l (goX l false k c))∧Inv l (goX l false k c):=(b9s w 700).ovr hI hk (b5u w false k c hk)
theorem g9i (w:Wf l) {c:Chart} (hI:Inv l c) (k:Nat) (hk:k < l.length):fo 165 [A (.sl 124 (l.map (sT 219))),aC c,A (vI k)]=some (RC (goX l false k c)):=((c7h w 700).ovr hI hk (b5u w false k c hk)).1
end
attribute [local congr] M0
attribute [local simp] K2 K6 J4 K3 H7 J9 H8 G9 J1 G3 a2h a5d
theorem a7p (l:List Int):D9 (iE l)=true:=by induction l <;> simp_all [D9,N5,clean]
attribute [local simp] a7p
theorem g0y (l:List Int):((iE l).all fun c=>c.all W7)=true:=by
 rw [List.all_eq_true]; intro c hc; obtain ⟨x,_,rfl⟩:=List.mem_map.1 hc; rfl
theorem b2h {n:Nat} (h:n≤1048576):n≤C2:=by unfold C2; omega
theorem b8v (l:List Int) (hl:l.length≤1048576):fo 170 [A (iS l)]=some ⟨.own 2 (iE l),[],true⟩:=by
 refine b9n (g:=a5p 2) rfl ?_
 have h1:=g0y l
 have h2:=b2h hl
 simp only [a5p]
 rw [if_pos ⟨trivial,h1,by simpa using h2⟩,a7p]
theorem b8f (l:List Int) (hl:l.length≤1048576):fo 160 [A (iS l)]=some ⟨.own 2 (iE l),[],true⟩:=by
 have h1:=g0y l
 have h2:=b2h hl
 have hm:(iE l).length≤C2:=by simpa using h2
 refine h7b 1 ?_
 simp (maxSteps:=1000000) +contextual -dsimp [f160,h1,h2,hm,List.set]
structure Few (c:Chart):Prop where
 vars:c.vars.length≤1048576
 acts:c.acts.length≤1048576
 dues:c.dues.length≤1048576
theorem e0p (c:Chart) (h:Few c):fo 188 [A (.agg (cT c))]=some ⟨.agg (cO c),[],true⟩:=by
 have g1:=b8v c.vars h.vars
 have g2:=b8v c.acts h.acts
 have g3:=b8v c.dues h.dues
 refine h7u 1 ?_
 simp (maxSteps:=1000000) +contextual -dsimp [f188,g1,g2,g3,List.set]
theorem e0q (c:Chart) (h:Few c):fo 164 [A (.agg (cT c))]=some ⟨.agg (cO c),[],true⟩:=by
 have g1:=b8f c.vars h.vars
 have g2:=b8f c.acts h.acts
 have g3:=b8f c.dues h.dues
 refine h7d 1 ?_
 simp (maxSteps:=1000000) +contextual -dsimp [f164,g1,g2,g3,List.set]
def noC:Chart:=⟨0,0,[],[],[]⟩
abbrev RR (r:Int × Chart):Res:=⟨.agg (vI r.1::cO r.2),[],true⟩
theorem c7i (k:Int):fo 158 [A (vI k)]=some (RR (k,noC)):=by
 refine h7a 1 ?_
 simp (maxSteps:=1000000) +contextual -dsimp [f158,noC,List.set]
theorem b7d {v:List Int} (h:M4 v=0):v.length=4∧∀ x,x∈v→badV x=false:=by
 unfold M4 at h
 obtain ⟨h1,h2⟩:=O1 h
 have h1:=a5h (by omega) h1
 have h2:=a5h (by omega) h2
 rw [b0p] at h2
 refine ⟨by simp [A0,eqI] at h1; omega,fun x hx=>?_⟩
 rw [List.any_eq_false] at h2
 have:=h2 x hx
 cases q:badV x
 ·rfl
 ·exact absurd q this
theorem b2x {l:List Step} {c:Chart} (h:chartM l c=0):Inv l c∧Wf l∧1≤c.status∧c.status≤3:=by
 obtain ⟨z1,z2,z3,z4,z5,z6⟩:=b6y (c1l h)
 obtain ⟨v1,v2⟩:=b7d z4
 exact ⟨⟨v1,z5,z6,z3.1,z3.2,v2⟩,i6s z1,z2.1,z2.2⟩
theorem Inv.few {l:List Step} {c:Chart} (h:Inv l c) (w:Wf l):Few c:=by
 have:=w.ok.le
 exact ⟨by rw [h.vars]; omega,by rw [h.acts]; omega,by rw [h.dues]; omega⟩
end Go.TM.Ft
namespace Go.TM.Ft
open Go Go.TM Go.Proofs Go.Proofs.Tryz
set_option maxRecDepth 20000
attribute [local congr] M0
attribute [local simp] K2 K6 J4 K3 H7 J9 H8 G9 J1 G3 a2h a5d a7p
def a1i (l:List Step) (c:Chart) (step:Int) (vars:List Int):Int × Chart:=
 if A0 (eqI (B5 (chartM l c) (M4 vars)) 0)=true then (B5 (chartM l c) (M4 vars),noC)
 else if A0 (a4t l c.acts step)=true then (4,noC) else (0,goX l false step.toNat { c with vars:=vars })
theorem c2i {l:List Step} {acts:List Int} {step:Int} (h:a4t l acts step=true):∃ k:Nat,step=k∧k < l.length∧A9 l k=2∧A4 acts k=1:=by
 simp only [a4t,A1,inR,leI,eqI,Bool.and_eq_true,decide_eq_true_eq] at h
 obtain ⟨⟨⟨h1,h2⟩,h3⟩,h4⟩:=h
 refine ⟨step.toNat,by omega,by omega,?_⟩
 rw [show ((step.toNat:Nat):Int)=step by omega]
 exact ⟨by simpa using h3,by simpa using h4⟩
theorem g5r (l:List Step) (hl:l.length < 2 ^ 62) (hf:∀ s,s∈l→FitS s) (c:Chart) (hc:FitC c) (step:Int) (vars:List Int) (hv:vars.length < 2 ^ 62):
  fo 128 [A (.sl 124 (l.map (sT 219))),A (.agg (cT c)),A (vI step),A (iS vars)]=some (RR (a1i l c step vars)):=by
 have g1:=d2b l hl hf c hc
 have g2:=d3q vars hv
 have g3:=U5 (chartM l c) (M4 vars)
 unfold a1i
 cases q:eqI (B5 (chartM l c) (M4 vars)) 0
 ·refine c6e 1 ?_
  simp (maxSteps:=1000000) +contextual -dsimp [f128,g1,g2,g3,q,noC,List.set]
 ·have q0:B5 (chartM l c) (M4 vars)=0:=by simpa [eqI] using q
  obtain ⟨z1,z2⟩:=O1 q0
  obtain ⟨hI,w,_,_⟩:=b2x z1
  obtain ⟨v1,v2⟩:=b7d z2
  have g4:=d4x l hl c hI.acts step
  rw [q0] at g3
  have q1:eqI 0 0=true:=rfl
  cases q2:a4t l c.acts step
  ·rw [q2] at g4
   refine c6e 1 ?_
   simp (maxSteps:=1000000) +contextual -dsimp [f128,g1,g2,g3,g4,q1,noC,List.set]
  ·rw [q2] at g4
   obtain ⟨k,rfl,hk,_⟩:=c2i q2
   have g5:=e0p c (hI.few w)
   have g6:=b8v vars (by omega)
   obtain ⟨g7,_⟩:=h2u w (c:={ c with vars:=vars }) ⟨v1,hI.acts,hI.dues,hI.now0,hI.now1,v2⟩ k hk
   rw [Int.toNat_natCast]
   generalize goX l false k { c with vars:=vars }=c' at *
   refine c6e 1 ?_
   simp (maxSteps:=1000000) +contextual -dsimp [f128,g1,g2,g3,g4,g5,g6,g7,q1,List.set]
theorem g4r (l:List Step) (hl:l.length < 2 ^ 62) (hf:b1m l) (c:Chart) (step:Int) (vars:List Int):
  fo 72 [A (.sl 124 (l.map (sT 219))),A (.agg (cT c)),A (vI step),A (iS vars)]=some (RR (a1i l c step vars)):=by
 have g1:=d7o l hl hf c
 have g2:=f6n vars
 rw [d5h] at g1
 rw [d7p] at g2
 unfold a1i
 cases q:eqI (chartM l c) 0
 ·have e:B5 (chartM l c) (M4 vars)=chartM l c:=by simp [B5,q]
  have gb:=c7i (chartM l c)
  rw [e,q]
  refine b2w 1 ?_
  simp (maxSteps:=1000000) +contextual -dsimp [f72,g1,gb,q,List.set]
 ·have q0:chartM l c=0:=by simpa [eqI] using q
  have q1:eqI 0 0=true:=rfl
  obtain ⟨hI,w,_,_⟩:=b2x q0
  have e:B5 (chartM l c) (M4 vars)=M4 vars:=by simp [B5,q]
  rw [e]
  cases q2:eqI (M4 vars) 0
  ·have gb:=c7i (M4 vars)
   refine b2w 1 ?_
   simp (maxSteps:=1000000) +contextual -dsimp [f72,g1,g2,gb,q,q2,List.set]
  ·have z2:M4 vars=0:=by simpa [eqI] using q2
   obtain ⟨v1,v2⟩:=b7d z2
   have hle:=w.ok.le
   have hwr:IntKind.i64.wrap ((l.length:Int) - 1)=(l.length:Int) - 1:=by rw [A5] <;> omega
   cases q3:a4t l c.acts step
   ·have gb:=c7i 4
    cases r1:inR step 0 ((l.length:Int) - 1)
    ·refine b2w 1 ?_
     simp (maxSteps:=1000000) +contextual -dsimp [f72,g1,g2,gb,q,q2,C8,hwr,r1,List.set]
    ·obtain ⟨k,rfl,hk⟩:∃ k:Nat,step=k∧k < l.length:=by
      simp only [A1,inR,leI,Bool.and_eq_true,decide_eq_true_eq] at r1
      exact ⟨step.toNat,by omega,by omega⟩
     have hka:k < c.acts.length:=by rw [hI.acts]; exact hk
     cases r2:eqI (A9 l k) 2
     ·have r2':eqI l[k].kind 2=false:=by rw [← a7l hk]; exact r2
      refine b2w 1 ?_
      simp (maxSteps:=1000000) +contextual -dsimp [f72,g1,g2,gb,q,q2,C8,hwr,r1,r2',hk,List.set]
     ·have r2':eqI l[k].kind 2=true:=by rw [← a7l hk]; exact r2
      have r3:eqI c.acts[k] 1=false:=by
       have:a4t l c.acts k=eqI (A4 c.acts k) 1:=by simp [a4t,r1,r2,A1]
       rw [this,K8 hka] at q3; exact q3
      refine b2w 1 ?_
      simp (maxSteps:=1000000) +contextual -dsimp [f72,g1,g2,gb,q,q2,C8,hwr,r1,r2',r3,hk,hka,List.set]
   ·obtain ⟨k,rfl,hk,e2,e3⟩:=c2i q3
    have hka:k < c.acts.length:=by rw [hI.acts]; exact hk
    have r1:inR (k:Int) 0 ((l.length:Int) - 1)=true:=by simp only [A1,inR,leI,Bool.and_eq_true,decide_eq_true_eq]; omega
    have r2':eqI l[k].kind 2=true:=by rw [← a7l hk,e2]; rfl
    have r3:eqI c.acts[k] 1=true:=by rw [← K8 hka,e3]; rfl
    have g5:=e0q c (hI.few w)
    have g6:=b8f vars (by omega)
    have g7:=g9i w (c:={ c with vars:=vars }) ⟨v1,hI.acts,hI.dues,hI.now0,hI.now1,v2⟩ k hk
    rw [Int.toNat_natCast]
    generalize goX l false k { c with vars:=vars }=c' at *
    refine b2w 1 ?_
    simp (maxSteps:=1000000) +contextual -dsimp [f72,g1,g2,g5,g6,g7,q,q2,C8,hwr,r1,r2',r3,hk,hka,List.set]
end Go.TM.Ft
namespace Go.TM.Ft
open Go Go.TM Go.Proofs Go.Proofs.Tryz
set_option maxRecDepth 20000
section
variable {l:List Step}
def dueK (l:List Step) (i:Nat):Prop:=A9 l i=6∨A9 l i=8
structure Late (l:List Step) (c c':Chart):Prop where
 now:c'.now=c.now
 dues:∀ i,c'.dues[i]?=c.dues[i]?∨c'.dues[i]?=some 0∨∃ y,c'.dues[i]?=some y∧c.now < y∧dueK l i
theorem Late.same {c c':Chart} (h1:c'.now=c.now) (h2:c'.dues=c.dues):Late l c c':=⟨h1,fun i=>.inl (by rw [h2])⟩
theorem Late.refl {c:Chart}:Late l c c:=.same rfl rfl
theorem Late.trans {a b c:Chart} (h:Late l a b) (h':Late l b c):Late l a c:=⟨h'.now.trans h.now,fun i=>by
 rcases h'.dues i with e | e | ⟨y,e1,e2,e3⟩
 ·rw [e]; exact h.dues i
 ·exact .inr (.inl e)
 ·exact .inr (.inr ⟨y,e1,by rw [← h.now]; exact e2,e3⟩)⟩
theorem Late.stop {c:Chart} (h:Inv l c) (st:Int):Late l c (a0j l st c):=⟨rfl,fun i=>by
 rcases Nat.lt_or_ge i l.length with hi | hi
 ·exact .inr (.inl (by simp [a0j,hi]))
 ·exact .inl (by have:=h.dues; rw [List.getElem?_eq_none (by simp [a0j]; omega),List.getElem?_eq_none (by omega)])⟩
theorem b9t:∀ (ks xs:List Int) (i:Nat),(zap ks xs)[i]?=xs[i]?∨(zap ks xs)[i]?=some 0
 | [],xs,i=>.inl rfl
 | k::ks,xs,i=>by
  have e:zap (k::ks) xs=zap ks (xs.set k.toNat 0):=rfl
  rw [e]
  rcases b9t ks (xs.set k.toNat 0) i with h | h
  ·rw [h,List.getElem?_set]
   split
   ·split
    ·exact .inr rfl
    ·rename_i h1 h2; subst h1; exact .inl (by rw [List.getElem?_eq_none (by omega)])
   ·exact .inl rfl
  ·exact .inr h
theorem f5u:∀ (ks xs:List Int) (i:Nat),(i:Int)∈ks→i < xs.length→(zap ks xs)[i]?=some 0
 | [],_,_,h,_=>by simp at h
 | k::ks,xs,i,h,hi=>by
  have e:zap (k::ks) xs=zap ks (xs.set k.toNat 0):=rfl
  rw [e]
  rcases List.mem_cons.1 h with h | h
  ·subst h
   rcases b9t ks (xs.set i 0) i with h1 | h1
   ·simp only [Int.toNat_natCast]
    rw [h1,List.getElem?_set]; simp [hi]
   ·exact h1
  ·exact f5u ks _ i h (by simpa using hi)
theorem Late.idle {c:Chart} (ks:List Int):Late l c (a1l ks c):=⟨rfl,fun i=>by
 rcases b9t ks c.dues i with h | h
 ·exact .inl h
 ·exact .inr (.inl h)⟩
theorem Late.due {c:Chart} {k:Nat} {y:Int} (h:c.now < y) (hk:dueK l k):Late l c { c with dues:=c.dues.set k y }:=⟨rfl,fun i=>by
 simp only [List.getElem?_set]
 split
 ·rename_i e; subst e
  split
  ·exact .inr (.inr ⟨y,rfl,h,hk⟩)
  ·exact .inl (by rw [List.getElem?_eq_none (by omega)])
 ·exact .inl rfl⟩
def GoL (l:List Step) (go:Bool→Nat→Chart→Option Chart):Prop:=∀ b k c c',Inv l c→k < l.length→go b k c=some c'→Inv l c'∧Late l c c'
theorem GoL.all (w:Wf l) {go} (g:GoL l go):∀ (ks:List Int) (c c':Chart),(∀ x,x∈ks→∃ a:Nat,x=a∧a < l.length)→Inv l c→a3y go ks c=some c'→Late l c c'
 | [],c,c',_,_,h=>by simp only [a3y,Option.some.injEq] at h; subst h; exact .refl
 | x::ks,c,c',hk,hI,h=>by
  obtain ⟨a,rfl,ha⟩:=hk x (by simp)
  unfold a3y at h
  rw [Int.toNat_natCast] at h
  cases q:go true a c with
  | none=>rw [q] at h; simp at h
  | some c1=>
   rw [q] at h
   obtain ⟨h1,h2⟩:=g true a c c1 hI ha q
   exact h2.trans (GoL.all w g ks c1 c' (fun x hx=>hk x (by simp [hx])) h1 h)
theorem GoL.ent (w:Wf l) {go} (g:GoL l go) {k:Nat} (hk:k < l.length) {c c':Chart} (hI:Inv l c) (h:a8r go l k c=some c'):Late l c c':=by
 have ent:∀ {a:Nat} {c1:Chart},a < l.length→Inv l c1→Late l c c1→go true a c1=some c'→Late l c c':=fun ha h1 h2 h3=>h2.trans (g true _ _ _ h1 ha h3).2
 unfold a8r at h
 split at h
 ·rename_i q
  obtain ⟨a,h1,h2,h3⟩:=w.kid0 hk (.inl (by simpa [eqI] using q))
  rw [h1,Int.toNat_natCast] at h
  exact ent h2 hI .refl h
 split at h
 ·exact GoL.all w g _ _ _ (fun x hx=>by obtain ⟨a,h1,h2,_⟩:=w.kid hx; exact ⟨a,h1,h2⟩) hI h
 split at h
 ·split at h
  ·simp only [Option.some.injEq] at h; subst h; exact .stop hI 3
  ·rename_i n1
   split at h
   ·simp only [Option.some.injEq] at h; subst h; exact .refl
   ·rename_i n2
    rcases c2h l c.vars (A7 k 0 l) with hh | hh | hh
    ·exact absurd (by rw [hh]; rfl) n1
    ·exact absurd (by rw [hh]; rfl) n2
    ·obtain ⟨a,h1,h2,h3,_⟩:=w.kid hh
     rw [h1,Int.toNat_natCast] at h
     exact ent h2 hI .refl h
 split at h
 ·rename_i q
  have q:A9 l k=8:=by simpa [eqI] using q
  have ha:=w.arg hk (.inr q)
  obtain ⟨a,h1,h2,h3⟩:=w.kid0 hk (.inr q)
  rw [h1,Int.toNat_natCast] at h
  exact ent h2 (hI.due k _) (.due (by omega) (.inr q)) h
 split at h
 ·rename_i q
  have q:A9 l k=6:=by simpa [eqI] using q
  have ha:=w.arg hk (.inl q)
  simp only [Option.some.injEq] at h; subst h
  exact .due (by omega) (.inl q)
 split at h
 ·rename_i q
  split at h
  ·simp only [Option.some.injEq] at h; subst h; exact .stop hI 3
  ·rename_i v hv
   have q:A9 l k=7:=by simpa [eqI] using q
   obtain ⟨okx,_⟩:=w.expr hk (by rw [← a7l hk]; exact q)
   rw [show (l[k]).expr=a5q l k by simp [a5q,hk]] at okx
   have hI2:Inv l { c with vars:=c.vars.set (O2 l k).toNat v }:=hI.var _ (c3s okx hv)
   exact (Late.same rfl rfl:Late l c { c with vars:=c.vars.set (O2 l k).toNat v }).trans (g false k _ _ hI2 hk h).2
 ·simp only [Option.some.injEq] at h; subst h; exact .refl
theorem GoL.ovr (w:Wf l) {go} (g:GoL l go) {k:Nat} (hk:k < l.length) {c c':Chart} (hI:Inv l c) (h:a9x go l k c=some c'):Late l c c':=by
 unfold a9x at h
 split at h
 ·simp only [Option.some.injEq] at h; subst h; exact .stop hI 2
 rename_i q0
 have hk0:0 < k:=by
  rcases Nat.eq_zero_or_pos k with e | e
  ·subst e; exact absurd rfl q0
  ·exact e
 obtain ⟨p,hp,hpk⟩:=w.par hk hk0
 have hpl:p < l.length:=by omega
 rw [hp,Int.toNat_natCast] at h
 have ovr:∀ {c1:Chart},Inv l c1→Late l c c1→go false p c1=some c'→Late l c c':=fun h1 h2 h3=>h2.trans (g false _ _ _ h1 hpl h3).2
 unfold b6k at h
 split at h
 ·split at h
  ·rename_i q2
   have hmem:=w.kid_of hk hp
   obtain ⟨j,e1,e2,e3⟩:=b4p hmem
   have ej:(j:Int)+1=((j+1:Nat):Int):=by omega
   rw [e1,ej] at q2 h
   have hj:j+1 < (A7 p 0 l).length:=by simp [ltI] at q2; omega
   obtain ⟨s,h1,h2,h3,h4⟩:=w.kid (a7o hj)
   rw [h1,Int.toNat_natCast] at h
   exact (g true _ _ _ hI h2 h).2
  ·exact ovr hI .refl h
 split at h
 ·split at h
  ·simp only [Option.some.injEq] at h; subst h; exact .same rfl rfl
  ·exact ovr (hI.act k 2) (.same rfl rfl) h
 ·exact ovr hI .refl h
theorem b8g (w:Wf l):∀ f,GoL l (goC l f)
 | 0=>fun b k c c' _ _ h=>by cases b <;> simp [goC] at h
 | f+1=>fun b k c c' hI hk h=>by
  refine ⟨?_,?_⟩
  ·have:=b9s w (f+1) b k c c' hI hk h
   exact this.2
  have ih:=b8g w f
  cases b
  ·unfold goC at h
   exact (Late.idle (L2 l k)).trans (GoL.ovr w ih hk (hI.idle _) h)
  ·unfold goC at h
   split at h
   ·exact (Late.same rfl rfl:Late l c { c with acts:=c.acts.set k 1 }).trans (GoL.ent w ih hk (hI.act k 1) h)
   ·simp only [Option.some.injEq] at h; subst h; exact .refl
theorem e0r (w:Wf l) (b:Bool) (k:Nat) (c:Chart) (hI:Inv l c) (hk:k < l.length):Late l c (goX l b k c):=(b8g w 700 b k c _ hI hk (b5u w b k c hk)).2
theorem b8w (w:Wf l) (b:Bool) (k:Nat) (c:Chart) (hI:Inv l c) (hk:k < l.length):Inv l (goX l b k c):=(b8g w 700 b k c _ hI hk (b5u w b k c hk)).1
theorem h2v (w:Wf l) {k:Nat} (hk:k < l.length):(k:Int)∈L2 l k:=by
 rw [← d4o w k hk]; simp
theorem g9j (w:Wf l) (k:Nat) (c:Chart) (hI:Inv l c) (hk:k < l.length):(goX l false k c).dues[k]?=some 0∨∃ y,(goX l false k c).dues[k]?=some y∧c.now < y:=by
 have h:=b5u w false k c hk
 generalize goX l false k c=c' at *
 unfold goC at h
 have h1:=GoL.ovr w (b8g w 699) hk (hI.idle (L2 l k)) h
 have h2:(a1l (L2 l k) c).dues[k]?=some 0:=f5u _ _ _ (h2v w hk) (by rw [hI.dues]; exact hk)
 rcases h1.dues k with e | e | ⟨y,e1,e2,_⟩
 ·exact .inl (e.trans h2)
 ·exact .inl e
 ·exact .inr ⟨y,e1,e2⟩
def d1c (now:Int) (dues:List Int) (d x:Int):Bool:=A1 (A1 (A0 (eqI x 0)) (leI x now)) (orB (ltI d 0) (ltI x (A4 dues d)))
def b6l (dues:List Int) (now:Int):Int:=M9 (fun (i:Nat) (d:Int) (x:Int)=>if d1c now dues d x=true then (i:Int) else d) 0 (-1) dues
def a5x (now x:Int):Bool:=A1 (A0 (eqI x 0)) (leI x now)
theorem d6r (dues:List Int) (now:Int):∀ (r:List Int) (i:Nat) (d:Int),dues.drop i=r→(d=-1∨∃ k:Nat,d=k∧k < dues.length∧a5x now (A4 dues d)=true)→
  (∀ d',M9 (fun (i:Nat) (d:Int) (x:Int)=>if d1c now dues d x=true then (i:Int) else d) i d r=d'→d'=-1∨∃ k:Nat,d'=k∧k < dues.length∧a5x now (A4 dues d')=true)
 | [],i,d,_,h,d',e=>by simp only [M9] at e; subst e; exact h
 | x::r,i,d,hr,h,d',e=>by
  obtain ⟨hi,hc,hr'⟩:=C6 hr
  simp only [M9] at e
  refine d6r dues now r (i+1) _ hr' ?_ d' e
  split
  ·rename_i q
   refine .inr ⟨i,rfl,hi,?_⟩
   rw [K8 hi,hc]
   simp only [d1c,A1,Bool.and_eq_true] at q
   simp only [a5x,A1,Bool.and_eq_true]
   exact q.1
  ·exact h
theorem g9k (dues:List Int) (now:Int):b6l dues now=-1∨∃ k:Nat,b6l dues now=k∧k < dues.length∧a5x now (A4 dues k)=true:=by
 rcases d6r dues now dues 0 (-1) rfl (.inl rfl) (b6l dues now) rfl with h | ⟨k,h1,h2,h3⟩
 ·exact .inl h
 ·exact .inr ⟨k,h1,h2,by rw [h1] at h3; exact h3⟩
def cnt (now:Int) (dues:List Int):Nat:=dues.countP (a5x now)
theorem g0z {p:Int→Bool}:∀ {xs ys:List Int} {k:Nat},xs.length=ys.length→(∀ (i:Nat) (x y:Int),xs[i]?=some x→ys[i]?=some y→p y=true→p x=true)→
  (∃ x y,xs[k]?=some x∧ys[k]?=some y∧p x=true∧p y=false)→ys.countP p < xs.countP p
 | [],_,k,_,_,⟨x,y,h,_⟩=>by simp at h
 | x::xs,[],k,h,_,_=>by simp at h
 | x::xs,y::ys,0,h,h1,⟨x',y',e1,e2,e3,e4⟩=>by
  simp only [List.getElem?_cons_zero,Option.some.injEq] at e1 e2
  subst e1; subst e2
  have:ys.countP p≤xs.countP p:=a8c (by simpa using h) fun i a b ha hb=>h1 (i+1) a b (by simpa using ha) (by simpa using hb)
  simp only [List.countP_cons,e3,e4,if_true]
  simp; omega
 | x::xs,y::ys,k+1,h,h1,⟨x',y',e1,e2,e3,e4⟩=>by
  simp only [List.getElem?_cons_succ] at e1 e2
  have ih:=g0z (p:=p) (xs:=xs) (ys:=ys) (k:=k) (by simpa using h) (fun i a b ha hb=>h1 (i+1) a b (by simpa using ha) (by simpa using hb)) ⟨x',y',e1,e2,e3,e4⟩
  have h0:=h1 0 x y rfl rfl
  simp only [List.countP_cons]
  cases hy:p y
  ·simp; split <;> omega
  ·simp [h0 hy]; exact ih
where
 a8c {p:Int→Bool}:∀ {xs ys:List Int},xs.length=ys.length→(∀ (i:Nat) (x y:Int),xs[i]?=some x→ys[i]?=some y→p y=true→p x=true)→ys.countP p≤xs.countP p
 | [],ys,h,_=>by cases ys <;> simp at h ⊢
 | x::xs,[],_,_=>by simp
 | x::xs,y::ys,h,h1=>by
  have ih:=a8c (p:=p) (xs:=xs) (ys:=ys) (by simpa using h) fun i a b ha hb=>h1 (i+1) a b (by simpa using ha) (by simpa using hb)
  have h0:=h1 0 x y rfl rfl
  simp only [List.countP_cons]
  cases hy:p y
  ·simp; omega
  ·simp [h0 hy]; exact ih
theorem h2w {c c':Chart} (hI:Inv l c) (hI':Inv l c') (h:Late l c c') {k:Nat} (hk:k < l.length) (h1:a5x c.now (A4 c.dues k)=true)
  (h2:c'.dues[k]?=some 0∨∃ y,c'.dues[k]?=some y∧c.now < y):cnt c'.now c'.dues < cnt c.now c.dues:=by
 have hlen:c.dues.length=c'.dues.length:=by rw [hI.dues,hI'.dues]
 rw [h.now]
 have no0:a5x c.now 0=false:=rfl
 have noy:∀ y,c.now < y→a5x c.now y=false:=fun y hy=>by simp [a5x,A1,A0,leI,eqI]; omega
 refine g0z (k:=k) hlen (fun i x y hx hy hp=>?_) ?_
 ·rcases h.dues i with e | e | ⟨z,e1,e2,_⟩
  ·rw [hx,hy] at e; simp only [Option.some.injEq] at e; rw [← e]; exact hp
  ·rw [hy] at e; simp only [Option.some.injEq] at e; rw [e,no0] at hp; simp at hp
  ·rw [hy] at e1; simp only [Option.some.injEq] at e1; rw [e1,noy z e2] at hp; simp at hp
 ·have hkd:k < c.dues.length:=by rw [hI.dues]; exact hk
  rw [K8 hkd] at h1
  rcases h2 with e | ⟨y,e1,e2⟩
  ·exact ⟨c.dues[k],0,by simp [hkd],e,h1,no0⟩
  ·exact ⟨c.dues[k],y,by simp [hkd],e1,h1,noy y e2⟩
def DueOk (l:List Step) (c:Chart):Prop:=∀ i:Nat,i < l.length→A4 c.dues i≠0→dueK l i
theorem DueOk.late {c c':Chart} (h:DueOk l c) (hI:Inv l c) (hI':Inv l c') (g:Late l c c'):DueOk l c':=fun i hi hn=>by
 have h1:i < c.dues.length:=by rw [hI.dues]; exact hi
 have h2:i < c'.dues.length:=by rw [hI'.dues]; exact hi
 rw [K8 h2] at hn
 rcases g.dues i with e | e | ⟨y,_,_,e⟩
 ·simp only [h1,h2,List.getElem?_eq_getElem,Option.some.injEq] at e
  exact h i hi (by rw [K8 h1,← e]; exact hn)
 ·simp only [h2,List.getElem?_eq_getElem,Option.some.injEq] at e
  exact absurd e hn
 ·exact e
def b5v (l:List Step) (d:Nat) (c:Chart):Chart:=a1l (L2 l (A4 (A7 d 0 l) 0).toNat) { c with dues:=c.dues.set d 0 }
def b1f (l:List Step) (d:Nat) (c:Chart):Chart:=
 if eqI (A9 l d) 6=true then goX l false d c else goX l true (A4 (A7 d 0 l) 1).toNat (b5v l d c)
def c0f (l:List Step):Nat→Chart→Chart
 | 0,c=>c
 | f+1,c=>if eqI c.status 1=true then (if ltI (b6l c.dues c.now) 0=true then c else c0f l f (b1f l (b6l c.dues c.now).toNat c)) else c
theorem Wf.guard (w:Wf l) {k:Nat} (hk:k < l.length) (h:A9 l k=8):∃ a b:Nat,A4 (A7 k 0 l) 0=a∧A4 (A7 k 0 l) 1=b∧a < l.length∧b < l.length∧2≤(A7 k 0 l).length:=by
 have hn:=w.kidsN hk
 rw [h] at hn
 have e:N8 8=(2,2):=rfl
 rw [e] at hn
 simp only [inR,A1,leI,Bool.and_eq_true,decide_eq_true_eq] at hn
 obtain ⟨a,h1,h2,_⟩:=w.kid (a7o (show 0 < (A7 k 0 l).length by omega))
 obtain ⟨b,h3,h4,_⟩:=w.kid (a7o (show 1 < (A7 k 0 l).length by omega))
 exact ⟨a,b,h1,h3,h2,h4,by omega⟩
theorem h2x (w:Wf l) {c:Chart} (hI:Inv l c) (hd:DueOk l c) {d:Nat} (hdl:d < l.length) (h1:a5x c.now (A4 c.dues d)=true):
  Inv l (b1f l d c)∧DueOk l (b1f l d c)∧cnt (b1f l d c).now (b1f l d c).dues < cnt c.now c.dues∧(b1f l d c).now=c.now:=by
 have hn:A4 c.dues d≠0:=fun e=>by rw [e] at h1; simp [a5x,A1,A0,eqI] at h1
 have key:∀ {c':Chart},Inv l c'→Late l c c'→(c'.dues[d]?=some 0∨∃ y,c'.dues[d]?=some y∧c.now < y)→Inv l c'∧DueOk l c'∧cnt c'.now c'.dues < cnt c.now c.dues∧c'.now=c.now:=
  fun a b e=>⟨a,hd.late hI a b,h2w hI a b hdl h1 e,b.now⟩
 unfold b1f
 split
 ·exact key (b8w w _ _ _ hI hdl) (e0r w _ _ _ hI hdl) (g9j w d c hI hdl)
 ·rename_i q
  have h8:A9 l d=8:=by
   rcases hd d hdl hn with h | h
   ·exact absurd (by rw [h]; rfl) q
   ·exact h
  obtain ⟨a,b,e1,e2,e3,e4,_⟩:=w.guard hdl h8
  rw [e2,Int.toNat_natCast]
  have i1:Inv l (b5v l d c):=(hI.due d 0).idle _
  have l0:Late l c { c with dues:=c.dues.set d 0 }:=⟨rfl,fun i=>by
   simp only [List.getElem?_set]
   split
   ·split
    ·exact .inr (.inl rfl)
    ·rename_i e _; subst e; exact .inl (by rw [List.getElem?_eq_none (by omega)])
   ·exact .inl rfl⟩
  have l1:Late l c (b5v l d c):=l0.trans (.idle _)
  have l2:=e0r w true b _ i1 e4
  refine key (b8w w _ _ _ i1 e4) (l1.trans l2) ?_
  have hdd:d < c.dues.length:=by rw [hI.dues]; exact hdl
  have z:(b5v l d c).dues[d]?=some 0:=by
   rcases b9t (L2 l (A4 (A7 d 0 l) 0).toNat) (c.dues.set d 0) d with h | h
   ·have:(b5v l d c).dues[d]?=(c.dues.set d 0)[d]?:=h
    rw [this]; simp [hdd]
   ·exact h
  rcases l2.dues d with e | e | ⟨y,y1,y2,_⟩
  ·exact .inl (e.trans z)
  ·exact .inl e
  ·exact .inr ⟨y,y1,by rw [← l1.now]; exact y2⟩
end
attribute [local congr] M0
attribute [local simp] K2 K6 J4 K3 H7 J9 H8 G9 J1 G3 a2h a5d a7p
theorem d6s {l:List Step} {c:Chart}:∀ (f i:Nat),a0q l c f i=true→∀ k,i≤k→k < i+f→a6y l c k=true
 | 0,i,_,k,h1,h2=>by omega
 | f+1,i,h,k,h1,h2=>by
  unfold a0q at h
  split at h
  ·rename_i q
   rcases Nat.lt_or_ge i k with h' | h'
   ·exact d6s f (i+1) h k h' (by omega)
   ·have:k=i:=by omega
    rw [this]; exact q
  ·simp at h
theorem i4l {l:List Step} {c:Chart} (h:chartM l c=0):DueOk l c:=by
 have ha:=c1l h
 obtain ⟨_,_,_,_,z5,z6⟩:=b6y ha
 unfold chartM at h
 rw [ha] at h
 simp only [show A0 (eqI 0 0)=false from rfl,Bool.false_eq_true,if_false] at h
 split at h
 ·simp at h
 have ho:=a5h (by omega) h
 have ho:b1n l c=true:=by cases e:b1n l c <;> simp [e,A0] at ho ⊢
 intro i hi hn
 unfold b1n at ho
 split at ho
 ·simp only [A1,Bool.and_eq_true] at ho
  have h2:=ho.2
  simp only [smS,A0,Bool.not_eq_true',b0p] at h2
  rw [List.any_eq_false] at h2
  have:=h2 (A4 c.dues i) (a7o (by omega))
  simp [a1o,A0,inR,A1,leI] at this
  omega
 ·split at ho
  ·rename_i q
   have hf:=d6s l.length 0 q i (Nat.zero_le _) (by omega)
   have hd:A0 (eqI (A4 c.dues i) 0)=true:=by simp [A0,eqI,hn]
   unfold a6y at hf
   rw [hd] at hf
   split at hf
   ·simp at hf
   split at hf
   ·simp [A1,eqI,hn] at hf
   ·unfold a2k at hf
    split at hf
    ·split at hf <;> simp [eqB] at hf
    split at hf
    ·split at hf <;> simp [eqB] at hf
    split at hf
    ·rename_i q8
     exact .inr (by simpa [eqI] using q8)
    split at hf
    ·rename_i q6
     exact .inl (by simpa [eqI] using q6)
    split at hf
    ·simp at hf
    ·simp [eqB] at hf
  ·simp at ho
def i6e (acts:List Int) (word:Int) (i:Nat) (s:Step):Bool:=A1 (A1 (eqI s.kind 5) (eqI s.arg word)) (eqI (A4 acts i) 1)
def c0g (acts:List Int) (word:Int) (i:Nat) (_:Unit) (s:Step):Nat ⊕ Unit:=if i6e acts word i s=true then .inl i else .inr ()
def g2i (l:List Step) (c:Chart):Nat ⊕ Unit→Int × Chart
 | .inl k=>(0,goX l false k c)
 | .inr _=>(4,noC)
def c9y (l:List Step) (c:Chart) (word:Int):Int:=B5 (chartM l c) (ci (A0 (inR word 0 9)) 3)
def g2j (l:List Step) (c:Chart) (word:Int):Int × Chart:=if A0 (eqI (c9y l c word) 0)=true then (c9y l c word,noC) else g2i l c (O4 (c0g c.acts word) 0 () l)
def c9z (l:List Step) (c:Chart) (now:Int):Int:=B5 (chartM l c) (ci (A0 (inR now c.now 1000000)) 3)
def g2k (l:List Step) (c:Chart) (now:Int):Int × Chart:=if A0 (eqI (c9z l c now) 0)=true then (c9z l c now,noC) else (0,c0f l 30 { c with now:=now })
theorem h2y {l:List Step} {c:Chart} {now:Int} (hI:Inv l c) (hd:DueOk l c) (h1:c.now≤now) (h2:now≤1000000):Inv l { c with now:=now }∧DueOk l { c with now:=now }:=
 ⟨⟨hI.vars,hI.acts,hI.dues,by have:=hI.now0; show 0≤now; omega,h2,hI.rng⟩,hd⟩
structure Act where
 kind:Int
 at_:Int
 vars:List Int
def b3r (l:List Step) (c:Chart) (a:Act):Int × Chart:=
 if eqI a.kind 1=true then a1i l c a.at_ a.vars else if eqI a.kind 2=true then g2j l c a.at_ else g2k l c (c.now+a.at_)
theorem d6t {l:List Step} (w:Wf l):∀ (f:Nat) (c:Chart),Inv l c→DueOk l c→Inv l (c0f l f c)
 | 0,c,h,_=>h
 | f+1,c,h,hD=>by
  unfold c0f
  split
  ·split
   ·exact h
   ·rename_i e
    rcases g9k c.dues c.now with q | ⟨d,q,hd,hdue⟩
    ·rw [q] at e; exact absurd rfl e
    ·rw [q,Int.toNat_natCast]
     obtain ⟨t1,t2,_,_⟩:=h2x w h hD (by rw [← h.dues]; exact hd) hdue
     exact d6t w f _ t1 t2
  ·exact h
theorem e0s {l:List Step} {c:Chart} {a:Act} (h:(b3r l c a).1=0):Inv l (b3r l c a).2:=by
 unfold b3r at h ⊢
 split
 ·rename_i q
  rw [if_pos q] at h
  unfold a1i at h ⊢
  split
  ·rename_i q1; rw [if_pos q1] at h; simp only at h; rw [h] at q1; simp [A0,eqI] at q1
  ·rename_i q1
   rw [if_neg q1] at h
   split
   ·rename_i q2; rw [if_pos q2] at h; simp at h
   ·rename_i q2
    have z:B5 (chartM l c) (M4 a.vars)=0:=by simpa [A0,eqI] using q1
    obtain ⟨z1,z2⟩:=O1 z
    obtain ⟨hI,w,_,_⟩:=b2x z1
    obtain ⟨v1,v2⟩:=b7d z2
    have q3:a4t l c.acts a.at_=true:=by simpa [A0] using q2
    obtain ⟨k,e,hk,_⟩:=c2i q3
    rw [e,Int.toNat_natCast]
    exact b8w w _ _ _ ⟨v1,hI.acts,hI.dues,hI.now0,hI.now1,v2⟩ hk
 ·rename_i q
  rw [if_neg q] at h
  split
  ·rename_i q'
   rw [if_pos q'] at h
   unfold g2j at h ⊢
   split
   ·rename_i q1; rw [if_pos q1] at h; simp only at h; rw [h] at q1; simp [A0,eqI] at q1
   ·rename_i q1
    rw [if_neg q1] at h
    have z:c9y l c a.at_=0:=by simpa [A0,eqI] using q1
    obtain ⟨z1,z2⟩:=O1 z
    obtain ⟨hI,w,_,_⟩:=b2x z1
    cases e:O4 (c0g c.acts a.at_) 0 () l with
    | inr s=>rw [e] at h; simp [g2i] at h
    | inl k=>
     have hk:k < l.length:=by
      have key:∀ (r:List Step) (i:Nat),O4 (c0g c.acts a.at_) i () r=.inl k→k < i+r.length:=by
       intro r
       induction r with
       | nil=>intro i he; simp [O4] at he
       | cons s r ih=>
        intro i he
        unfold O4 at he
        unfold c0g at he
        split at he
        ·rename_i s' hs'
         have:=ih (i+1) he
         simp; omega
        ·rename_i e' hs'
         split at hs'
         ·simp only [Sum.inl.injEq] at hs' he
          simp; omega
         ·simp at hs'
      have:=key l 0 e
      omega
     exact b8w w _ _ _ hI hk
  ·rename_i q'
   rw [if_neg q'] at h
   unfold g2k at h ⊢
   split
   ·rename_i q1; rw [if_pos q1] at h; simp only at h; rw [h] at q1; simp [A0,eqI] at q1
   ·rename_i q1
    have z:c9z l c (c.now+a.at_)=0:=by simpa [A0,eqI] using q1
    obtain ⟨z1,z2⟩:=O1 z
    obtain ⟨hI,w,_,_⟩:=b2x z1
    have z2:=a5h (by omega) z2
    have z2:inR (c.now+a.at_) c.now 1000000=true:=by cases e:inR (c.now+a.at_) c.now 1000000 <;> simp [e,A0] at z2 ⊢
    simp only [inR,A1,leI,Bool.and_eq_true,decide_eq_true_eq] at z2
    obtain ⟨i1,d1⟩:=h2y hI (i4l z1) z2.1 z2.2
    exact d6t w 30 _ i1 d1
end Go.TM.Ft
