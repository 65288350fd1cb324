/- What functions of the program come to, by the machine. -/
import Derived.Test.YtlmiemdojgahaaaGreatSL8
import Derived.Test.YtlmiemdojgahaaaGreatSL6
import Derived.Test.YtlmiemdojgahaaaGreatSL4
import Derived.Test.YtlmiemdojgahaaaGreatSL7
import Derived.Test.YtlmiemdojgahaaaGreatSL5
set_option linter.unusedSimpArgs false
set_option linter.unusedVariables false
namespace Go.TM.Ft
open Go Go.TM Go.Proofs
set_option maxRecDepth 20000
structure Wf (l:List Step):Prop where
 ok:ProcOk l
 one:∀ (k:Nat) (s:Step),l[k]?=some s→one4M l k s=0
 typ:procC l=0
theorem typesM_typ {l:List Node}:∀ (r:List Node) (i:Nat) (acc:List Int),l.drop i=r→acc.length=i→(∀ k,k < i→acc[k]?=(l[k]?).map fun n=>(partB n.kind).2)→(typesM r acc).1=true→
  (typesM r acc).2=acc++r.map (fun n=>(partB n.kind).2)∧∀ (k:Nat) (n:Node),i≤k→l[k]?=some n→badT n ((typesM r acc).2.take k)=false
 | [],i,acc,hd,ha,_,ht=>by
  refine ⟨by simp [typesM],fun k n hk hn=>?_⟩
  have:l.length≤i:=List.drop_eq_nil_iff.1 hd
  rw [List.getElem?_eq_none (by omega)] at hn; simp at hn
 | x::r,i,acc,hd,ha,hp,ht=>by
  obtain ⟨hi,hc,hr⟩:=drop_cons hd
  unfold typesM at ht ⊢
  split at ht
  ·simp at ht
  ·rename_i hb
   rw [if_neg hb]
   have hb':badT x acc=false:=by simpa using hb
   obtain ⟨g1,g2⟩:=typesM_typ (l:=l) r (i+1) (acc++[(partB x.kind).2]) hr (by simp [ha]) (fun k hk=>by
    rcases Nat.lt_or_ge k i with h | h
    ·rw [List.getElem?_append_left (by omega)]; exact hp k h
    ·have e:k=i:=by omega
     subst e
     rw [List.getElem?_append_right (by omega),List.getElem?_eq_getElem hi,hc]
     simp [ha]) ht
   refine ⟨by rw [g1]; simp,fun k n hk hn=>?_⟩
   rcases Nat.lt_or_ge i k with h | h
   ·exact g2 k n h hn
   ·have e:k=i:=by omega
    subst e
    rw [List.getElem?_eq_getElem hi,hc] at hn
    simp only [Option.some.injEq] at hn
    subst hn
    rw [g1,List.append_assoc,List.take_append_of_le_length (by omega),List.take_of_length_le (by omega)]
    exact hb'
theorem expr_ok {l:List Node} {want:Int} (hne:l≠[]) (h:typeFaultM l want=0):ExprOk l:=by
 unfold typeFaultM at h
 split at h
 ·rename_i c
  simp [eqI] at c
  exact absurd c hne
 obtain ⟨h1,h2⟩:=first2_zero h
 unfold typeM at h1
 split at h1
 ·rename_i c; simp only at h1; rw [h1] at c; simp [notB,eqI] at c
 rename_i c0
 have e0:exprM l=0:=by simpa [notB,eqI] using c0
 obtain ⟨g1,g2,g3⟩:=expr_zero e0
 split at h1
 ·rename_i c1
  obtain ⟨t1,t2⟩:=typesM_typ (l:=l) l 0 [] rfl rfl (fun k h=>by omega) c1
  have nd:∀ (k:Nat) (n:Node),l[k]?=some n→nodeFaultM n (k:Nat)=0:=fun k n hn=>by have:=nodes_all g3 k n hn; simpa using this
  refine ⟨g1,g2,nd,fun k n hn hk=>?_⟩
  have hb:=t2 k n (Nat.zero_le _) hn
  have hkl:k < l.length:=by
   rcases Nat.lt_or_ge k l.length with h | h
   ·exact h
   ·rw [List.getElem?_eq_none h] at hn; simp at hn
  have at_:∀ x:Int,0≤x→x≤(k:Int) - 1→szAt ((typesM l []).2.take k) x=(partB (kindN l x)).2:=by
   intro x hx0 hx1
   obtain ⟨y,rfl⟩:=Int.eq_ofNat_of_zero_le hx0
   have hy:y < k:=by omega
   have hyl:y < l.length:=by omega
   rw [t1]
   simp [szAt,List.getElem?_take,hy,kindN,hyl]
  unfold badT at hb
  have nk:=node_kinds (nd k n hn)
  have hk2:ltI 2 n.kind=true:=by simp [ltI]; exact hk
  rw [hk2] at hb
  rcases nk with q | q | q | q
  ·omega
  ·omega
  ·rw [at_ _ q.2.2.1 q.2.2.2] at hb
   have e39:inR n.kind 3 9=false:=by rw [q.1]; rfl
   rw [e39] at hb
   simp [orB,andB,notB,eqI] at hb
   exact ⟨hb,fun h=>by omega⟩
  ·rw [at_ _ q.2.2.1 q.2.2.2.1,at_ _ q.2.2.2.2.1 q.2.2.2.2.2] at hb
   have e39:inR n.kind 3 9=true:=by simp [inR,andB,leI]; omega
   rw [e39] at hb
   simp [orB,andB,notB,eqI] at hb
   exact ⟨hb.1,fun _=>hb.2⟩
 ·simp at h1
theorem procC_at:∀ {l:List Step},procC l=0→∀ s,s∈l→typeFaultM s.cond 2=0∧typeFaultM s.expr 1=0
 | [],_,s,h=>by simp at h
 | x::l,hz,s,h=>by
  unfold procC at hz
  split at hz
  ·rename_i c; rw [hz] at c; simp [notB,eqI] at c
  ·rename_i c
   rcases List.mem_cons.1 h with rfl | h
   ·exact first2_zero (by simpa [notB,eqI] using c)
   ·exact procC_at hz s h
theorem one_parts {l:List Step} {i:Nat} {s:Step} (h:one4M l i s=0):
  1≤s.kind∧s.kind≤8∧bare4 s=true∧par4 s i=false∧(0 < i→line4 l i=true)∧deep4 l i≤7∧argM s.kind s.arg=true∧(s.kind=7→expr4M s.expr=0):=by
 unfold one4M at h
 split at h
 ·simp at h
 rename_i c1
 split at h
 ·simp at h
 rename_i c2
 split at h
 ·simp at h
 rename_i c3
 split at h
 ·simp at h
 rename_i c4
 have hk:inR s.kind 1 8=true∧bare4 s=true:=by
  cases a:inR s.kind 1 8 <;> cases b:bare4 s <;> simp [a,b,orB,notB] at c1 ⊢
 have hk1:1≤s.kind∧s.kind≤8:=by have:=hk.1; simp [inR,andB,leI] at this; exact this
 have tl:tail4 s=0→argM s.kind s.arg=true∧(s.kind=7→expr4M s.expr=0):=by
  intro ht
  unfold tail4 at ht
  split at ht
  ·simp at ht
  ·rename_i d
   refine ⟨by simpa [notB] using d,fun h7=>?_⟩
   rw [if_pos (by simp [eqI,h7])] at ht
   exact ht
 have ht:tail4 s=0:=by
  split at h
  ·split at h
   ·rename_i d; rw [h] at d; simp [notB,eqI] at d
   ·exact h
  ·exact h
 obtain ⟨t1,t2⟩:=tl ht
 refine ⟨hk1.1,hk1.2,hk.2,by simpa using c2,fun h0=>?_,by simp [ltI] at c4; omega,t1,t2⟩
 have:ltI 0 (i:Int)=true:=by simp [ltI]; omega
 rw [this] at c3
 simpa [andB,notB] using c3
section
variable {l:List Step}
theorem Wf.at (w:Wf l) {k:Nat} (h:k < l.length):one4M l k l[k]=0:=w.one k _ (List.getElem?_eq_getElem h)
theorem kindOf_at {k:Nat} (h:k < l.length):kindOf l (k:Int)=(l[k]).kind:=by simp [kindOf,h]
theorem parOf_at {k:Nat} (h:k < l.length):parOf l k=(l[k]).parent:=by simp [parOf,h]
theorem Wf.kind (w:Wf l) {k:Nat} (h:k < l.length):1≤(l[k]).kind∧(l[k]).kind≤8:=⟨(one_parts (w.at h)).1,(one_parts (w.at h)).2.1⟩
theorem Wf.cond (w:Wf l) {s:Step} (hs:s∈l) (hne:s.cond≠[]):ExprOk s.cond:=expr_ok hne (procC_at w.typ s hs).1
theorem Wf.expr (w:Wf l) {k:Nat} (h:k < l.length) (h7:(l[k]).kind=7):ExprOk (l[k]).expr∧0≤(l[k]).arg∧(l[k]).arg≤3:=by
 have p:=one_parts (w.at h)
 have hx:=p.2.2.2.2.2.2.2 h7
 refine ⟨expr_ok (want:=1) (fun e=>?_) (procC_at w.typ _ (List.getElem_mem h)).2,?_⟩
 ·rw [e] at hx; simp [expr4M,orB,ltI] at hx
 ·have:=p.2.2.2.2.2.2.1
  rw [h7] at this
  simp [argM,eqI,inR,andB,leI] at this
  exact this
theorem Wf.par (w:Wf l) {k:Nat} (h:k < l.length) (h0:0 < k):∃ q:Nat,parOf l k=q∧q < k:=by
 obtain ⟨a,h1,h2⟩:=w.ok.par k h h0
 exact ⟨a,by rw [parOf_at h,h1],h2⟩
theorem Wf.par0 (w:Wf l):parOf l 0=-1:=by
 have h:0 < l.length:=by have:=w.ok.pos; omega
 rw [parOf_at h]; exact w.ok.par0 h
inductive Und (l:List Step) (a:Nat):Nat→Prop
 | self:Und l a a
 | up {i q:Nat}:i < l.length→parOf l i=(q:Int)→q < i→Und l a q→Und l a i
theorem Und.le {a i:Nat} (h:Und l a i):a≤i:=by
 induction h with
 | self=>exact Nat.le_refl _
 | up _ _ h2 _ ih=>omega
theorem Und.trans {a b c:Nat} (h1:Und l a b) (h2:Und l b c):Und l a c:=by
 induction h2 with
 | self=>exact h1
 | up g1 g2 g3 _ ih=>exact .up g1 g2 g3 ih
theorem Wf.root (w:Wf l):∀ {i:Nat},i < l.length→Und l 0 i:=by
 intro i
 induction i using Nat.strongRecOn with
 | ind i ih=>
  intro hi
  rcases Nat.eq_zero_or_pos i with h | h
  ·subst h; exact .self
  ·obtain ⟨q,h1,h2⟩:=w.par hi h
   exact .up hi h1 h2 (ih q h2 (by omega))
theorem Wf.ahead (w:Wf l) {i:Nat}:Ahead l i:=fun k hk _=>by
 rcases Nat.eq_zero_or_pos k with h | h
 ·subst h
  have:=w.ok.par0 hk
  omega
 ·obtain ⟨q,h1,h2⟩:=w.ok.par k hk h
  omega
theorem line_und (w:Wf l) {p:Nat}:∀ (f:Nat) (i:Int),i < l.length→lineM l p f i=true→∃ j:Nat,i=j∧Und l p j
 | 0,i,_,h=>by simp [lineM] at h
 | f+1,i,hi,h=>by
  unfold lineM at h
  split at h
  ·rename_i c
   obtain ⟨j,rfl⟩:=Int.eq_ofNat_of_zero_le (show 0≤i by simpa [leI] using c)
   split at h
   ·rename_i d
    have:(j:Int)=p:=by simpa [eqI] using d
    have:j=p:=Int.ofNat.inj this
    subst this
    exact ⟨j,rfl,.self⟩
   ·have hj:j < l.length:=by omega
    rw [Int.toNat_natCast] at h
    have hpl:parOf l j < l.length:=by
     rcases Nat.eq_zero_or_pos j with h' | h'
     ·subst h'; rw [w.par0]; omega
     ·obtain ⟨q,h1,h2⟩:=w.par hj h'; omega
    obtain ⟨q,h1,h2⟩:=line_und w f (parOf l j) hpl h
    rcases Nat.eq_zero_or_pos j with h' | h'
    ·subst h'; rw [w.par0] at h1; omega
    ·obtain ⟨q',h3,h4⟩:=w.par hj h'
     have:q=q':=by omega
     subst this
     exact ⟨j,rfl,.up hj h3 h4 h2⟩
  ·simp at h
theorem Wf.before (w:Wf l) {i q:Nat} (hi:i < l.length) (h0:0 < i) (hp:parOf l i=(q:Int)):Und l q (i - 1):=by
 have hl:=(one_parts (w.at hi)).2.2.2.2.1 h0
 unfold line4 at hl
 rw [hp] at hl
 obtain ⟨j,h1,h2⟩:=line_und w _ _ (by omega) hl
 have:j=i - 1:=by omega
 rw [← this]; exact h2
end
end Go.TM.Ft
namespace Go.TM.Ft
open Go Go.TM Go.Proofs
set_option maxRecDepth 20000
attribute [local congr] gif_cg
attribute [local simp] footOf noClash clash upsets setsHit setHits layHits layMeets setsMeet evFeet
end Go.TM.Ft
namespace Go.TM.Ft
open Go Go.TM Go.Proofs
set_option maxRecDepth 20000
attribute [local congr] gif_cg
attribute [local simp] footOf noClash clash upsets setsHit setHits layHits layMeets setsMeet evFeet
end Go.TM.Ft
namespace Go.TM.Ft
open Go Go.TM Go.Proofs
set_option maxRecDepth 20000
attribute [local congr] gif_cg
attribute [local simp] footOf noClash clash upsets setsHit setHits layHits layMeets setsMeet evFeet seal4_iE
theorem Wf.condOf {l:List Step} (w:Wf l) {k:Nat} (hk:k < l.length) (h:ltI 0 (Ft.condOf l k).length=true):ExprOk (Ft.condOf l k):=by
 have e:Ft.condOf l k=(l[k]).cond:=by simp [Ft.condOf,hk]
 rw [e] at h ⊢
 refine w.cond (List.getElem_mem hk) fun hn=>?_
 rw [hn] at h; simp [ltI] at h
structure Inv (l:List Step) (c:Chart):Prop where
 vars:c.vars.length=4
 acts:c.acts.length=l.length
 dues:c.dues.length=l.length
 now0:0≤c.now
 now1:c.now≤1000000
 rng:∀ x,x∈c.vars→badV x=false
end Go.TM.Ft
namespace Go.TM.Ft
open Go Go.TM Go.Proofs
set_option maxRecDepth 20000
attribute [local congr] gif_cg
attribute [local simp] footOf noClash clash upsets setsHit setHits layHits layMeets setsMeet evFeet seal4_iE
def argOf (l:List Step) (k:Nat):Int:=match l[k]? with | some s=>s.arg | none=>0
def goAll (go:Bool→Nat→Chart→Option Chart):List Int→Chart→Option Chart
 | [],c=>some c
 | k::r,c=>match go true k.toNat c with | some c'=>goAll go r c' | none=>none
theorem Inv.act {l:List Step} {c:Chart} (h:Inv l c) (k:Nat) (x:Int):Inv l { c with acts:=c.acts.set k x }:=⟨h.vars,by simp [h.acts],h.dues,h.now0,h.now1,h.rng⟩
theorem Inv.due {l:List Step} {c:Chart} (h:Inv l c) (k:Nat) (x:Int):Inv l { c with dues:=c.dues.set k x }:=⟨h.vars,h.acts,by simp [h.dues],h.now0,h.now1,h.rng⟩
section
variable {l:List Step}
theorem Wf.kidsN (w:Wf l) {k:Nat} (hk:k < l.length):inR (kidsM k 0 l).length (kidB (kindOf l k)).1 (kidB (kindOf l k)).2=true:=by
 have hc:=w.ok.cond k hk
 unfold condFaultM at hc
 have hcode:condCode l k=0:=by
  split at hc
  ·exact hc
  ·rename_i c
   simp [orB,notB,eqI] at c
   exact c.1
 have:=(first2_zero hcode).1
 cases h:inR (kidsM k 0 l).length (kidB (kindOf l k)).1 (kidB (kindOf l k)).2
 ·rw [h] at this; simp [notB] at this
 ·rfl
theorem Wf.kid (w:Wf l) {p:Nat} {x:Int} (hx:x∈kidsM p 0 l):∃ a:Nat,x=a∧a < l.length∧p < a∧parOf l a=p:=by
 rw [proc_kids w.ok] at hx
 obtain ⟨a,ha,h1,h2⟩:=kids4_iff.1 hx
 rw [Nat.zero_add] at h1
 refine ⟨a,h1,ha,?_,by rw [parOf_at ha]; exact h2⟩
 rcases Nat.eq_zero_or_pos a with h | h
 ·subst h
  have:=w.ok.par0 ha
  omega
 ·obtain ⟨q,h3,h4⟩:=w.ok.par a ha h
  omega
theorem szAt_mem {ks:List Int} {n:Nat} (h:n < ks.length):szAt ks (n:Int)∈ks:=by rw [szAt_lt h]; exact List.getElem_mem h
theorem Wf.arg (w:Wf l) {k:Nat} (hk:k < l.length) (h:kindOf l k=6∨kindOf l k=8):1≤argOf l k∧argOf l k≤99:=by
 have p:=(one_parts (w.at hk)).2.2.2.2.2.2.1
 rw [kindOf_at hk] at h
 have e:argOf l k=(l[k]).arg:=by simp [argOf,hk]
 rw [e]
 rcases h with h | h <;> rw [h] at p <;> simp [argM,eqI,inR,andB,leI] at p <;> exact p
end
end Go.TM.Ft
namespace Go.TM.Ft
open Go Go.TM Go.Proofs
set_option maxRecDepth 20000
attribute [local congr] gif_cg
attribute [local simp] footOf noClash clash upsets setsHit setHits layHits layMeets setsMeet evFeet seal4_iE
theorem seal4_set (l:List Int) (k:Nat) (x:Int):sealEs ((iE l).set k [vI x])=(iE l).set k [vI x]:=by
 have:(iE l).set k [vI x]=iE (l.set k x):=by simp [iE]
 rw [this]; exact seal4_iE _
attribute [local simp] seal4_set
section
variable {l:List Step}
end
end Go.TM.Ft
namespace Go.TM.Ft
open Go Go.TM Go.Proofs
set_option maxRecDepth 20000
attribute [local congr] gif_cg
attribute [local simp] footOf noClash clash upsets setsHit setHits layHits layMeets setsMeet evFeet seal4_iE seal4_set pr_mulX
end Go.TM.Ft
namespace Go.TM.Ft
open Go Go.TM Go.Proofs
set_option maxRecDepth 20000
attribute [local congr] gif_cg
attribute [local simp] footOf noClash clash upsets setsHit setHits layHits layMeets setsMeet evFeet seal4_iE seal4_set
abbrev cO (c:Chart):List T:=[vI c.status,vI c.now,.own 2 (iE c.vars),.own 2 (iE c.acts),.own 2 (iE c.dues)]
end Go.TM.Ft
namespace Go.TM.Ft
open Go Go.TM Go.Proofs
set_option maxRecDepth 20000
attribute [local congr] gif_cg
attribute [local simp] footOf noClash clash upsets setsHit setHits layHits layMeets setsMeet evFeet seal4_iE seal4_set
end Go.TM.Ft
namespace Go.TM.Ft
open Go Go.TM Go.Proofs
set_option maxRecDepth 20000
attribute [local congr] gif_cg
attribute [local simp] footOf noClash clash upsets setsHit setHits layHits layMeets setsMeet evFeet seal4_iE seal4_set
section
variable {l:List Step}
end
end Go.TM.Ft
namespace Go.TM.Ft
open Go Go.TM Go.Proofs
set_option maxRecDepth 20000
attribute [local congr] gif_cg
attribute [local simp] footOf noClash clash upsets setsHit setHits layHits layMeets setsMeet evFeet seal4_iE seal4_set
section
variable {l:List Step}
end
end Go.TM.Ft
namespace Go.TM.Ft
open Go Go.TM Go.Proofs
set_option maxRecDepth 20000
section
variable {l:List Step}
end
end Go.TM.Ft
namespace Go.TM.Ft
open Go Go.TM Go.Proofs
set_option maxRecDepth 20000
attribute [local congr] gif_cg
attribute [local simp] footOf noClash clash upsets setsHit setHits layHits layMeets setsMeet evFeet seal4_iE seal4_set
theorem clean_iE (l:List Int):cleanEs (iE l)=true:=by induction l <;> simp_all [cleanEs,cleanL,clean]
attribute [local simp] clean_iE
theorem one_iE (l:List Int):((iE l).all fun c=>c.all one1)=true:=by
 rw [List.all_eq_true]; intro c hc; obtain ⟨x,_,rfl⟩:=List.mem_map.1 hc; rfl
theorem elems_le {n:Nat} (h:n≤1048576):n≤maxElems:=by unfold maxElems; omega
theorem f_Clone (l:List Int) (hl:l.length≤1048576):fo 170 [A (iS l)]=some ⟨.own 2 (iE l),[],true⟩:=by
 refine orc_ext (g:=cloneT 2) rfl ?_
 have h1:=one_iE l
 have h2:=elems_le hl
 simp only [cloneT]
 rw [if_pos ⟨trivial,h1,by simpa using h2⟩,clean_iE]
theorem f_l8Ints (l:List Int) (hl:l.length≤1048576):fo 160 [A (iS l)]=some ⟨.own 2 (iE l),[],true⟩:=by
 have h1:=one_iE l
 have h2:=elems_le hl
 have hm:(iE l).length≤maxElems:=by simpa using h2
 refine orc_160 1 ?_
 simp (maxSteps:=1000000) +contextual -dsimp [Tryz.f160,h1,h2,hm,List.set]
structure Few (c:Chart):Prop where
 vars:c.vars.length≤1048576
 acts:c.acts.length≤1048576
 dues:c.dues.length≤1048576
theorem f_cloneC (c:Chart) (h:Few c):fo 188 [A (.agg (cT c))]=some ⟨.agg (cO c),[],true⟩:=by
 have g1:=f_Clone c.vars h.vars
 have g2:=f_Clone c.acts h.acts
 have g3:=f_Clone c.dues h.dues
 refine orc_188 1 ?_
 simp (maxSteps:=1000000) +contextual -dsimp [Tryz.f188,g1,g2,g3,List.set]
theorem f_l9Copy (c:Chart) (h:Few c):fo 164 [A (.agg (cT c))]=some ⟨.agg (cO c),[],true⟩:=by
 have g1:=f_l8Ints c.vars h.vars
 have g2:=f_l8Ints c.acts h.acts
 have g3:=f_l8Ints c.dues h.dues
 refine orc_164 1 ?_
 simp (maxSteps:=1000000) +contextual -dsimp [Tryz.f164,g1,g2,g3,List.set]
end Go.TM.Ft
namespace Go.TM.Ft
open Go Go.TM Go.Proofs
set_option maxRecDepth 20000
attribute [local congr] gif_cg
attribute [local simp] footOf noClash clash upsets setsHit setHits layHits layMeets setsMeet evFeet seal4_iE seal4_set clean_iE
end Go.TM.Ft
namespace Go.TM.Ft
open Go Go.TM Go.Proofs
set_option maxRecDepth 20000
section
variable {l:List Step}
def dueK (l:List Step) (i:Nat):Prop:=kindOf l i=6∨kindOf l i=8
structure Late (l:List Step) (c c':Chart):Prop where
 now:c'.now=c.now
 dues:∀ i,c'.dues[i]?=c.dues[i]?∨c'.dues[i]?=some 0∨∃ y,c'.dues[i]?=some y∧c.now < y∧dueK l i
theorem Late.same {c c':Chart} (h1:c'.now=c.now) (h2:c'.dues=c.dues):Late l c c':=⟨h1,fun i=>.inl (by rw [h2])⟩
theorem Late.refl {c:Chart}:Late l c c:=.same rfl rfl
theorem Late.trans {a b c:Chart} (h:Late l a b) (h':Late l b c):Late l a c:=⟨h'.now.trans h.now,fun i=>by
 rcases h'.dues i with e | e | ⟨y,e1,e2,e3⟩
 ·rw [e]; exact h.dues i
 ·exact .inr (.inl e)
 ·exact .inr (.inr ⟨y,e1,by rw [← h.now]; exact e2,e3⟩)⟩
theorem Late.due {c:Chart} {k:Nat} {y:Int} (h:c.now < y) (hk:dueK l k):Late l c { c with dues:=c.dues.set k y }:=⟨rfl,fun i=>by
 simp only [List.getElem?_set]
 split
 ·rename_i e; subst e
  split
  ·exact .inr (.inr ⟨y,rfl,h,hk⟩)
  ·exact .inl (by rw [List.getElem?_eq_none (by omega)])
 ·exact .inl rfl⟩
def GoL (l:List Step) (go:Bool→Nat→Chart→Option Chart):Prop:=∀ b k c c',Inv l c→k < l.length→go b k c=some c'→Inv l c'∧Late l c c'
theorem GoL.all (w:Wf l) {go} (g:GoL l go):∀ (ks:List Int) (c c':Chart),(∀ x,x∈ks→∃ a:Nat,x=a∧a < l.length)→Inv l c→goAll go ks c=some c'→Late l c c'
 | [],c,c',_,_,h=>by simp only [goAll,Option.some.injEq] at h; subst h; exact .refl
 | x::ks,c,c',hk,hI,h=>by
  obtain ⟨a,rfl,ha⟩:=hk x (by simp)
  unfold goAll at h
  rw [Int.toNat_natCast] at h
  cases q:go true a c with
  | none=>rw [q] at h; simp at h
  | some c1=>
   rw [q] at h
   obtain ⟨h1,h2⟩:=g true a c c1 hI ha q
   exact h2.trans (GoL.all w g ks c1 c' (fun x hx=>hk x (by simp [hx])) h1 h)
where
 cnt_le {p:Int→Bool}:∀ {xs ys:List Int},xs.length=ys.length→(∀ (i:Nat) (x y:Int),xs[i]?=some x→ys[i]?=some y→p y=true→p x=true)→ys.countP p≤xs.countP p
 | [],ys,h,_=>by cases ys <;> simp at h ⊢
 | x::xs,[],_,_=>by simp
 | x::xs,y::ys,h,h1=>by
  have ih:=cnt_le (p:=p) (xs:=xs) (ys:=ys) (by simpa using h) fun i a b ha hb=>h1 (i+1) a b (by simpa using ha) (by simpa using hb)
  have h0:=h1 0 x y rfl rfl
  simp only [List.countP_cons]
  cases hy:p y
  ·simp; omega
  ·simp [h0 hy]; exact ih
theorem Wf.guard (w:Wf l) {k:Nat} (hk:k < l.length) (h:kindOf l k=8):∃ a b:Nat,szAt (kidsM k 0 l) 0=a∧szAt (kidsM k 0 l) 1=b∧a < l.length∧b < l.length∧2≤(kidsM k 0 l).length:=by
 have hn:=w.kidsN hk
 rw [h] at hn
 have e:kidB 8=(2,2):=rfl
 rw [e] at hn
 simp only [inR,andB,leI,Bool.and_eq_true,decide_eq_true_eq] at hn
 obtain ⟨a,h1,h2,_⟩:=w.kid (szAt_mem (show 0 < (kidsM k 0 l).length by omega))
 obtain ⟨b,h3,h4,_⟩:=w.kid (szAt_mem (show 1 < (kidsM k 0 l).length by omega))
 exact ⟨a,b,h1,h3,h2,h4,by omega⟩
end
end Go.TM.Ft
namespace Go.TM.Ft
open Go Go.TM Go.Proofs
set_option maxRecDepth 20000
attribute [local congr] gif_cg
attribute [local simp] footOf noClash clash upsets setsHit setHits layHits layMeets setsMeet evFeet seal4_iE seal4_set clean_iE
end Go.TM.Ft
namespace Go.TM.Ft
open Go Go.TM Go.Proofs
set_option maxRecDepth 20000
attribute [local congr] gif_cg
attribute [local simp] footOf noClash clash upsets setsHit setHits layHits layMeets setsMeet evFeet seal4_iE seal4_set clean_iE
end Go.TM.Ft
namespace Go.TM.Ft
open Go Go.TM Go.Proofs
set_option maxRecDepth 20000
attribute [local congr] gif_cg
attribute [local simp] footOf noClash clash upsets setsHit setHits layHits layMeets setsMeet evFeet seal4_iE seal4_set clean_iE
end Go.TM.Ft
namespace Go.TM.Ft
open Go Go.TM Go.Proofs
set_option maxRecDepth 20000
attribute [local congr] gif_cg
attribute [local simp] footOf noClash clash upsets setsHit setHits layHits layMeets setsMeet evFeet seal4_iE seal4_set clean_iE
end Go.TM.Ft
namespace Go.TM.Ft
open Go Go.TM Go.Proofs
set_option maxRecDepth 20000
attribute [local congr] gif_cg
attribute [local simp] footOf noClash clash upsets setsHit setHits layHits layMeets setsMeet evFeet seal4_iE seal4_set clean_iE
structure Act where
 kind:Int
 at_:Int
 vars:List Int
end Go.TM.Ft
namespace Go.TM.Ft
open Go Go.TM
end Go.TM.Ft
namespace Go.TM.Ft
open Go Go.TM Go.Proofs
abbrev eTl (e:Engine):List T:=[.sl 225 (e.procs.map (pT 111 267)),.sl 229 (e.insts.map xT),vI e.now]
abbrev dTl (d:Desk):List T:=[.sl 225 (d.eng.procs.map (pT 111 267)),.sl 229 (d.eng.insts.map xT),vI d.eng.now,.sl 222 (d.claims.map kT)]
end Go.TM.Ft
