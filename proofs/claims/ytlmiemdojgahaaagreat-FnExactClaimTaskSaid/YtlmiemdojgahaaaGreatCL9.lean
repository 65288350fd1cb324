/- What functions of the program come to, by the machine. -/
import Derived.Test.YtlmiemdojgahaaaGreatCL8
import Derived.Test.YtlmiemdojgahaaaGreatCL7
import Derived.Test.YtlmiemdojgahaaaGreatCL4
set_option linter.unusedSimpArgs false
set_option linter.unusedVariables false
namespace Go.TM.Ft
open Go Go.TM Go.Proofs
set_option maxRecDepth 20000
attribute [local congr] gif_cg
attribute [local simp] footOf noClash clash upsets setsHit setHits layHits layMeets setsMeet evFeet seal4_iE
def argOf (l:List Step) (k:Nat):Int:=match l[k]? with | some s=>s.arg | none=>0
def goAll (go:Bool→Nat→Chart→Option Chart):List Int→Chart→Option Chart
 | [],c=>some c
 | k::r,c=>match go true k.toNat c with | some c'=>goAll go r c' | none=>none
theorem Inv.act {l:List Step} {c:Chart} (h:Inv l c) (k:Nat) (x:Int):Inv l { c with acts:=c.acts.set k x }:=⟨h.vars,by simp [h.acts],h.dues,h.now0,h.now1,h.rng⟩
theorem Inv.due {l:List Step} {c:Chart} (h:Inv l c) (k:Nat) (x:Int):Inv l { c with dues:=c.dues.set k x }:=⟨h.vars,h.acts,by simp [h.dues],h.now0,h.now1,h.rng⟩
section
variable {l:List Step}
theorem Wf.kidsN (w:Wf l) {k:Nat} (hk:k < l.length):inR (kidsM k 0 l).length (kidB (kindOf l k)).1 (kidB (kindOf l k)).2=true:=by
 have hc:=w.ok.cond k hk
 unfold condFaultM at hc
 have hcode:condCode l k=0:=by
  split at hc
  ·exact hc
  ·rename_i c
   simp [orB,notB,eqI] at c
   exact c.1
 have:=(first2_zero hcode).1
 cases h:inR (kidsM k 0 l).length (kidB (kindOf l k)).1 (kidB (kindOf l k)).2
 ·rw [h] at this; simp [notB] at this
 ·rfl
theorem Wf.kid (w:Wf l) {p:Nat} {x:Int} (hx:x∈kidsM p 0 l):∃ a:Nat,x=a∧a < l.length∧p < a∧parOf l a=p:=by
 rw [proc_kids w.ok] at hx
 obtain ⟨a,ha,h1,h2⟩:=kids4_iff.1 hx
 rw [Nat.zero_add] at h1
 refine ⟨a,h1,ha,?_,by rw [parOf_at ha]; exact h2⟩
 rcases Nat.eq_zero_or_pos a with h | h
 ·subst h
  have:=w.ok.par0 ha
  omega
 ·obtain ⟨q,h3,h4⟩:=w.ok.par a ha h
  omega
theorem szAt_mem {ks:List Int} {n:Nat} (h:n < ks.length):szAt ks (n:Int)∈ks:=by rw [szAt_lt h]; exact List.getElem_mem h
theorem Wf.arg (w:Wf l) {k:Nat} (hk:k < l.length) (h:kindOf l k=6∨kindOf l k=8):1≤argOf l k∧argOf l k≤99:=by
 have p:=(one_parts (w.at hk)).2.2.2.2.2.2.1
 rw [kindOf_at hk] at h
 have e:argOf l k=(l[k]).arg:=by simp [argOf,hk]
 rw [e]
 rcases h with h | h <;> rw [h] at p <;> simp [argM,eqI,inR,andB,leI] at p <;> exact p
end
end Go.TM.Ft
namespace Go.TM.Ft
open Go Go.TM Go.Proofs
set_option maxRecDepth 20000
attribute [local congr] gif_cg
attribute [local simp] footOf noClash clash upsets setsHit setHits layHits layMeets setsMeet evFeet seal4_iE
theorem seal4_set (l:List Int) (k:Nat) (x:Int):sealEs ((iE l).set k [vI x])=(iE l).set k [vI x]:=by
 have:(iE l).set k [vI x]=iE (l.set k x):=by simp [iE]
 rw [this]; exact seal4_iE _
attribute [local simp] seal4_set
section
variable {l:List Step}
end
end Go.TM.Ft
namespace Go.TM.Ft
open Go Go.TM Go.Proofs
set_option maxRecDepth 20000
attribute [local congr] gif_cg
attribute [local simp] footOf noClash clash upsets setsHit setHits layHits layMeets setsMeet evFeet seal4_iE seal4_set pr_mulX
end Go.TM.Ft
namespace Go.TM.Ft
open Go Go.TM Go.Proofs
set_option maxRecDepth 20000
attribute [local congr] gif_cg
attribute [local simp] footOf noClash clash upsets setsHit setHits layHits layMeets setsMeet evFeet seal4_iE seal4_set
abbrev cO (c:Chart):List T:=[vI c.status,vI c.now,.own 2 (iE c.vars),.own 2 (iE c.acts),.own 2 (iE c.dues)]
end Go.TM.Ft
namespace Go.TM.Ft
open Go Go.TM Go.Proofs
set_option maxRecDepth 20000
attribute [local congr] gif_cg
attribute [local simp] footOf noClash clash upsets setsHit setHits layHits layMeets setsMeet evFeet seal4_iE seal4_set
end Go.TM.Ft
namespace Go.TM.Ft
open Go Go.TM Go.Proofs
set_option maxRecDepth 20000
attribute [local congr] gif_cg
attribute [local simp] footOf noClash clash upsets setsHit setHits layHits layMeets setsMeet evFeet seal4_iE seal4_set
section
variable {l:List Step}
end
end Go.TM.Ft
namespace Go.TM.Ft
open Go Go.TM Go.Proofs
set_option maxRecDepth 20000
attribute [local congr] gif_cg
attribute [local simp] footOf noClash clash upsets setsHit setHits layHits layMeets setsMeet evFeet seal4_iE seal4_set
section
variable {l:List Step}
end
end Go.TM.Ft
namespace Go.TM.Ft
open Go Go.TM Go.Proofs
set_option maxRecDepth 20000
section
variable {l:List Step}
end
end Go.TM.Ft
namespace Go.TM.Ft
open Go Go.TM Go.Proofs
set_option maxRecDepth 20000
attribute [local congr] gif_cg
attribute [local simp] footOf noClash clash upsets setsHit setHits layHits layMeets setsMeet evFeet seal4_iE seal4_set
theorem clean_iE (l:List Int):cleanEs (iE l)=true:=by induction l <;> simp_all [cleanEs,cleanL,clean]
attribute [local simp] clean_iE
theorem one_iE (l:List Int):((iE l).all fun c=>c.all one1)=true:=by
 rw [List.all_eq_true]; intro c hc; obtain ⟨x,_,rfl⟩:=List.mem_map.1 hc; rfl
theorem elems_le {n:Nat} (h:n≤1048576):n≤maxElems:=by unfold maxElems; omega
theorem f_Clone (l:List Int) (hl:l.length≤1048576):fo 170 [A (iS l)]=some ⟨.own 2 (iE l),[],true⟩:=by
 refine orc_ext (g:=cloneT 2) rfl ?_
 have h1:=one_iE l
 have h2:=elems_le hl
 simp only [cloneT]
 rw [if_pos ⟨trivial,h1,by simpa using h2⟩,clean_iE]
theorem f_l8Ints (l:List Int) (hl:l.length≤1048576):fo 160 [A (iS l)]=some ⟨.own 2 (iE l),[],true⟩:=by
 have h1:=one_iE l
 have h2:=elems_le hl
 have hm:(iE l).length≤maxElems:=by simpa using h2
 refine orc_160 1 ?_
 simp (maxSteps:=1000000) +contextual -dsimp [Tryz.f160,h1,h2,hm,List.set]
structure Few (c:Chart):Prop where
 vars:c.vars.length≤1048576
 acts:c.acts.length≤1048576
 dues:c.dues.length≤1048576
theorem f_cloneC (c:Chart) (h:Few c):fo 188 [A (.agg (cT c))]=some ⟨.agg (cO c),[],true⟩:=by
 have g1:=f_Clone c.vars h.vars
 have g2:=f_Clone c.acts h.acts
 have g3:=f_Clone c.dues h.dues
 refine orc_188 1 ?_
 simp (maxSteps:=1000000) +contextual -dsimp [Tryz.f188,g1,g2,g3,List.set]
theorem f_l9Copy (c:Chart) (h:Few c):fo 164 [A (.agg (cT c))]=some ⟨.agg (cO c),[],true⟩:=by
 have g1:=f_l8Ints c.vars h.vars
 have g2:=f_l8Ints c.acts h.acts
 have g3:=f_l8Ints c.dues h.dues
 refine orc_164 1 ?_
 simp (maxSteps:=1000000) +contextual -dsimp [Tryz.f164,g1,g2,g3,List.set]
end Go.TM.Ft
namespace Go.TM.Ft
open Go Go.TM Go.Proofs
set_option maxRecDepth 20000
attribute [local congr] gif_cg
attribute [local simp] footOf noClash clash upsets setsHit setHits layHits layMeets setsMeet evFeet seal4_iE seal4_set clean_iE
end Go.TM.Ft
namespace Go.TM.Ft
open Go Go.TM Go.Proofs
set_option maxRecDepth 20000
section
variable {l:List Step}
def dueK (l:List Step) (i:Nat):Prop:=kindOf l i=6∨kindOf l i=8
structure Late (l:List Step) (c c':Chart):Prop where
 now:c'.now=c.now
 dues:∀ i,c'.dues[i]?=c.dues[i]?∨c'.dues[i]?=some 0∨∃ y,c'.dues[i]?=some y∧c.now < y∧dueK l i
theorem Late.same {c c':Chart} (h1:c'.now=c.now) (h2:c'.dues=c.dues):Late l c c':=⟨h1,fun i=>.inl (by rw [h2])⟩
theorem Late.refl {c:Chart}:Late l c c:=.same rfl rfl
theorem Late.trans {a b c:Chart} (h:Late l a b) (h':Late l b c):Late l a c:=⟨h'.now.trans h.now,fun i=>by
 rcases h'.dues i with e | e | ⟨y,e1,e2,e3⟩
 ·rw [e]; exact h.dues i
 ·exact .inr (.inl e)
 ·exact .inr (.inr ⟨y,e1,by rw [← h.now]; exact e2,e3⟩)⟩
theorem Late.due {c:Chart} {k:Nat} {y:Int} (h:c.now < y) (hk:dueK l k):Late l c { c with dues:=c.dues.set k y }:=⟨rfl,fun i=>by
 simp only [List.getElem?_set]
 split
 ·rename_i e; subst e
  split
  ·exact .inr (.inr ⟨y,rfl,h,hk⟩)
  ·exact .inl (by rw [List.getElem?_eq_none (by omega)])
 ·exact .inl rfl⟩
def GoL (l:List Step) (go:Bool→Nat→Chart→Option Chart):Prop:=∀ b k c c',Inv l c→k < l.length→go b k c=some c'→Inv l c'∧Late l c c'
theorem GoL.all (w:Wf l) {go} (g:GoL l go):∀ (ks:List Int) (c c':Chart),(∀ x,x∈ks→∃ a:Nat,x=a∧a < l.length)→Inv l c→goAll go ks c=some c'→Late l c c'
 | [],c,c',_,_,h=>by simp only [goAll,Option.some.injEq] at h; subst h; exact .refl
 | x::ks,c,c',hk,hI,h=>by
  obtain ⟨a,rfl,ha⟩:=hk x (by simp)
  unfold goAll at h
  rw [Int.toNat_natCast] at h
  cases q:go true a c with
  | none=>rw [q] at h; simp at h
  | some c1=>
   rw [q] at h
   obtain ⟨h1,h2⟩:=g true a c c1 hI ha q
   exact h2.trans (GoL.all w g ks c1 c' (fun x hx=>hk x (by simp [hx])) h1 h)
where
 cnt_le {p:Int→Bool}:∀ {xs ys:List Int},xs.length=ys.length→(∀ (i:Nat) (x y:Int),xs[i]?=some x→ys[i]?=some y→p y=true→p x=true)→ys.countP p≤xs.countP p
 | [],ys,h,_=>by cases ys <;> simp at h ⊢
 | x::xs,[],_,_=>by simp
 | x::xs,y::ys,h,h1=>by
  have ih:=cnt_le (p:=p) (xs:=xs) (ys:=ys) (by simpa using h) fun i a b ha hb=>h1 (i+1) a b (by simpa using ha) (by simpa using hb)
  have h0:=h1 0 x y rfl rfl
  simp only [List.countP_cons]
  cases hy:p y
  ·simp; omega
  ·simp [h0 hy]; exact ih
theorem Wf.guard (w:Wf l) {k:Nat} (hk:k < l.length) (h:kindOf l k=8):∃ a b:Nat,szAt (kidsM k 0 l) 0=a∧szAt (kidsM k 0 l) 1=b∧a < l.length∧b < l.length∧2≤(kidsM k 0 l).length:=by
 have hn:=w.kidsN hk
 rw [h] at hn
 have e:kidB 8=(2,2):=rfl
 rw [e] at hn
 simp only [inR,andB,leI,Bool.and_eq_true,decide_eq_true_eq] at hn
 obtain ⟨a,h1,h2,_⟩:=w.kid (szAt_mem (show 0 < (kidsM k 0 l).length by omega))
 obtain ⟨b,h3,h4,_⟩:=w.kid (szAt_mem (show 1 < (kidsM k 0 l).length by omega))
 exact ⟨a,b,h1,h3,h2,h4,by omega⟩
end
end Go.TM.Ft
namespace Go.TM.Ft
open Go Go.TM Go.Proofs
set_option maxRecDepth 20000
attribute [local congr] gif_cg
attribute [local simp] footOf noClash clash upsets setsHit setHits layHits layMeets setsMeet evFeet seal4_iE seal4_set clean_iE
end Go.TM.Ft
namespace Go.TM.Ft
open Go Go.TM Go.Proofs
set_option maxRecDepth 20000
attribute [local congr] gif_cg
attribute [local simp] footOf noClash clash upsets setsHit setHits layHits layMeets setsMeet evFeet seal4_iE seal4_set clean_iE
end Go.TM.Ft
namespace Go.TM.Ft
open Go Go.TM Go.Proofs
set_option maxRecDepth 20000
attribute [local congr] gif_cg
attribute [local simp] footOf noClash clash upsets setsHit setHits layHits layMeets setsMeet evFeet seal4_iE seal4_set clean_iE
end Go.TM.Ft
namespace Go.TM.Ft
open Go Go.TM Go.Proofs
set_option maxRecDepth 20000
attribute [local congr] gif_cg
attribute [local simp] footOf noClash clash upsets setsHit setHits layHits layMeets setsMeet evFeet seal4_iE seal4_set clean_iE
end Go.TM.Ft
namespace Go.TM.Ft
open Go Go.TM Go.Proofs
set_option maxRecDepth 20000
attribute [local congr] gif_cg
attribute [local simp] footOf noClash clash upsets setsHit setHits layHits layMeets setsMeet evFeet seal4_iE seal4_set clean_iE
structure Act where
 kind:Int
 at_:Int
 vars:List Int
end Go.TM.Ft
namespace Go.TM.Ft
open Go Go.TM
structure DeskR where
 code:Int
 value:Int
 desk:Desk
abbrev drT (p:DeskR):List T:=[vI p.code,vI p.value,.sl 160 (p.desk.eng.procs.map (pT 124 219)),.sl 163 (p.desk.eng.insts.map xT),vI p.desk.eng.now,.sl 150 (p.desk.claims.map kT)]
end Go.TM.Ft
namespace Go.TM.Ft
open Go Go.TM Go.Proofs
set_option maxRecDepth 20000
attribute [local congr] gif_cg
attribute [local simp] footOf noClash clash upsets setsHit setHits layHits layMeets setsMeet evFeet
end Go.TM.Ft
namespace Go.TM.Ft
open Go Go.TM Go.Proofs
abbrev eTl (e:Engine):List T:=[.sl 225 (e.procs.map (pT 111 267)),.sl 229 (e.insts.map xT),vI e.now]
abbrev dTl (d:Desk):List T:=[.sl 225 (d.eng.procs.map (pT 111 267)),.sl 229 (d.eng.insts.map xT),vI d.eng.now,.sl 222 (d.claims.map kT)]
end Go.TM.Ft
namespace Go.TM.Ft
open Go Go.TM Go.Proofs
set_option maxRecDepth 20000
attribute [local congr] gif_cg
attribute [local simp] footOf noClash clash upsets setsHit setHits layHits layMeets setsMeet evFeet
abbrev iV (n:Int):List T:=[vI n]
def subM (left:Int) (w:Nat):Int:=if ltI (left - w) 0=true then -1 else left - w
theorem sub_f {left:Int} {w:Nat} (c:ltI (subM left w) 0=false):(w:Int)≤left∧subM left w=left - w:=by
 unfold subM at c ⊢
 split at c
 ·simp [ltI] at c
 ·rename_i h; rw [if_neg h]; simp [ltI] at h; exact ⟨by omega,rfl⟩
theorem sub_t {left:Int} {w:Nat} (_h0:0≤left) (c:ltI (subM left w) 0=true):left < (w:Int):=by
 unfold subM at c
 split at c
 ·rename_i h; simp [ltI] at h; omega
 ·rename_i h; exact absurd c h
theorem subM_n {left:Int} {w:Nat} (h:left < (w:Int)):subM left w=-1:=by unfold subM; rw [if_pos (by simp [ltI]; omega)]
theorem subM_p {left:Int} {w:Nat} (h:(w:Int)≤left):subM left w=left - w:=by unfold subM; rw [if_neg (by simp [ltI]; omega)]
theorem subM_z {left:Int} (h:0≤left):subM left 0=left:=by rw [subM_p (by simpa using h)]; simp
theorem subM_add (left:Int) (a b:Nat):subM left (a+b)=subM (left - a) b:=by
 have e:left - ((a+b:Nat):Int)=left - a - b:=by omega
 unfold subM; rw [e]
def wStep (x:Step):Nat:=x.name.size+x.cond.length+x.expr.length
def FwStep (x:Step):Prop:=x.name.size < 2 ^ 62∧x.cond.length < 2 ^ 62∧x.expr.length < 2 ^ 62
def sumStep:List Step→Nat
 | []=>0
 | x::r=>wStep x+sumStep r
def wsStep (l:List Step):Nat:=l.length+sumStep l
theorem sumStep_mem {x:Step}:∀ {l:List Step},x∈l→wStep x≤sumStep l
 | [],h=>by simp at h
 | y::l,h=>by
  unfold sumStep
  rcases List.mem_cons.1 h with rfl | h
  ·omega
  ·have:=sumStep_mem h; omega
def wProc (x:List Step):Nat:=wsStep x
def FwProc (x:List Step):Prop:=(x.length < 2 ^ 62∧∀ y,y∈x→FwStep y)
def sumProc:List (List Step)→Nat
 | []=>0
 | x::r=>wProc x+sumProc r
def wsProc (l:List (List Step)):Nat:=l.length+sumProc l
theorem sumProc_mem {x:List Step}:∀ {l:List (List Step)},x∈l→wProc x≤sumProc l
 | [],h=>by simp at h
 | y::l,h=>by
  unfold sumProc
  rcases List.mem_cons.1 h with rfl | h
  ·omega
  ·have:=sumProc_mem h; omega
def wChart (x:Chart):Nat:=x.vars.length+x.acts.length+x.dues.length
def FwChart (x:Chart):Prop:=x.vars.length < 2 ^ 62∧x.acts.length < 2 ^ 62∧x.dues.length < 2 ^ 62
def wInst (x:Inst):Nat:=wChart x.chart
def FwInst (x:Inst):Prop:=FwChart x.chart
def sumInst:List Inst→Nat
 | []=>0
 | x::r=>wInst x+sumInst r
def wsInst (l:List Inst):Nat:=l.length+sumInst l
theorem sumInst_mem {x:Inst}:∀ {l:List Inst},x∈l→wInst x≤sumInst l
 | [],h=>by simp at h
 | y::l,h=>by
  unfold sumInst
  rcases List.mem_cons.1 h with rfl | h
  ·omega
  ·have:=sumInst_mem h; omega
def wEngine (x:Engine):Nat:=wsProc x.procs+wsInst x.insts
def FwEngine (x:Engine):Prop:=(x.procs.length < 2 ^ 62∧∀ y,y∈x.procs→FwProc y)∧(x.insts.length < 2 ^ 62∧∀ y,y∈x.insts→FwInst y)
def wDesk (x:Desk):Nat:=wEngine x.eng+x.claims.length
def FwDesk (x:Desk):Prop:=FwEngine x.eng∧x.claims.length < 2 ^ 62
theorem g_szintS (l:List Int) (left:Int) (h0:0≤left) (h1:left≤1048576) (hl:l.length < 2 ^ 62):fo 156 [A (.sl 2 (l.map iV)),A (vI left)]=some (R (vI (subM left l.length))):=by
 have hw:IntKind.i64.wrap (left - l.length)=left - l.length:=by rw [wrapI] <;> omega
 refine orc_156 1 ?_
 simp (maxSteps:=1000000) +contextual -dsimp [Tryz.f156,subM,hw]
theorem g_szNodeS (l:List Node) (left:Int) (h0:0≤left) (h1:left≤1048576) (hl:l.length < 2 ^ 62):fo 155 [A (.sl 267 (l.map nT)),A (vI left)]=some (R (vI (subM left l.length))):=by
 have hw:IntKind.i64.wrap (left - l.length)=left - l.length:=by rw [wrapI] <;> omega
 refine orc_155 1 ?_
 simp (maxSteps:=1000000) +contextual -dsimp [Tryz.f155,subM,hw]
theorem g_szStep (x:Step) (left:Int) (h0:0≤left) (h1:left≤1048576) (hf:FwStep x):fo 68 [A (.agg (sT 267 x)),A (vI left)]=some (R (vI (subM left (wStep x)))):=by
 unfold FwStep at hf
 refine orc_68 1 ?_
 have hw0:IntKind.i64.wrap (left - (x.name.size:Nat))=left - (x.name.size:Nat):=by have:=hf.1; rw [wrapI] <;> omega
 cases c0:ltI (left - (x.name.size:Nat)) 0
 ·have p0:((x.name.size:Nat):Int)≤left:=by simp [ltI] at c0; omega
  have g1:=g_szNodeS x.cond (left - (x.name.size:Nat)) (by omega) (by omega) hf.2.1
  cases c1:ltI (subM (left - (x.name.size:Nat)) (x.cond.length)) 0
  ·obtain ⟨p1,e1⟩:=sub_f c1
   rw [e1] at g1 c1
   have g2:=g_szNodeS x.expr (left - (x.name.size:Nat) - (x.cond.length:Nat)) (by omega) (by omega) hf.2.2
   cases c2:ltI (subM (left - (x.name.size:Nat) - (x.cond.length:Nat)) (x.expr.length)) 0
   ·obtain ⟨p2,e2⟩:=sub_f c2
    rw [e2] at g2 c2
    have hm:subM left (wStep x)=left - (x.name.size:Nat) - (x.cond.length:Nat) - (x.expr.length:Nat):=by
     have:=subM_p (left:=left) (w:=wStep x) (by simp only [wStep]; omega)
     simp only [wStep] at this ⊢; omega
    rw [hm]
    simp (maxSteps:=1000000) +contextual -dsimp [Tryz.f68,hw0,g1,g2,c0,c1,c2]
   ·have n2:=sub_t (by omega) c2
    have hm:subM left (wStep x)=-1:=subM_n (by simp only [wStep]; omega)
    rw [hm]
    simp (maxSteps:=1000000) +contextual -dsimp [Tryz.f68,hw0,g1,g2,c0,c1,c2]
  ·have n1:=sub_t (by omega) c1
   have hm:subM left (wStep x)=-1:=subM_n (by simp only [wStep]; omega)
   rw [hm]
   simp (maxSteps:=1000000) +contextual -dsimp [Tryz.f68,hw0,g1,c0,c1]
 ·have hm:subM left (wStep x)=-1:=subM_n (by simp only [wStep]; simp [ltI] at c0; omega)
  rw [hm]
  simp (maxSteps:=1000000) +contextual -dsimp [Tryz.f68,hw0,c0]
theorem lszStepS (all:List Step) (hall:all.length≤1048576) (hf:∀ x,x∈all→FwStep x):∀ (rest:List Step) (i:Nat) (left:Int),all.drop i=rest→0≤left→left≤1048576→
  evLoop E (orc E) (13:Nat) (rest.length+1) (loopOf Tryz.f13 0) ⟨27,[(0,.sl 111 (all.map (sT 267))),(1,vI left),(5,vI i)],[],2⟩=
  (if ltI (subM left (sumStep rest)) 0=true then some (.ret,⟨27,[(4,vI (-1))],[],2⟩) else some (.exit 0,⟨27,[(0,.sl 111 (all.map (sT 267))),(1,vI (left - (sumStep rest:Nat))),(5,vI (i+rest.length:Nat)),(15,vB false)],[],2⟩))
 | [],i,left,h,h0,h1=>by
  have hge:all.length≤i:=by simpa using h
  have hlt:ltI (i:Int) (all.length:Int)=false:=ltI_f (by omega)
  have hz:subM left 0=left:=subM_z h0
  have hn:ltI left 0=false:=ltI_f (by omega)
  rw [loop_eq]
  simp +contextual -dsimp [Tryz.f13,hlt,sumStep,hz,hn]
 | x::rest,i,left,h,h0,h1=>by
  obtain ⟨hi,hc,hr⟩:=drop_cons h
  have hlt:ltI (i:Int) (all.length:Int)=true:=ltI_t (by omega)
  have hw:IntKind.i64.wrap ((i:Int)+1)=((i+1:Nat):Int):=by rw [wrapI] <;> omega
  have he:i+1+rest.length=i+(rest.length+1):=by omega
  have g:=g_szStep x left h0 h1 (hf x (by rw [← hc]; exact List.getElem_mem _))
  have ha:subM left (sumStep (x::rest))=subM (left - wStep x) (sumStep rest):=subM_add left (wStep x) (sumStep rest)
  have hb:left - ((sumStep (x::rest):Nat):Int)=left - wStep x - (sumStep rest:Nat):=by simp only [sumStep]; omega
  cases c:ltI (subM left (wStep x)) 0
  ·obtain ⟨p,e⟩:=sub_f c
   rw [e] at g c
   have ih:=lszStepS all hall hf rest (i+1) (left - wStep x) hr (by omega) (by omega)
   rw [he] at ih
   rw [ha,hb]
   refine evLoop_next ?_ (by simpa only [List.length_cons] using ih)
   simp (maxSteps:=1000000) +contextual -dsimp [Tryz.f13,hlt,hi,hc,hw,g,c]
  ·have hn:=sub_t h0 c
   have hm:ltI (subM left (sumStep (x::rest))) 0=true:=by rw [subM_n (by simp only [sumStep]; omega)]; rfl
   rw [hm,if_pos rfl]
   refine evLoop_out ?_ (by simp)
   simp (maxSteps:=1000000) +contextual -dsimp [Tryz.f13,hlt,hi,hc,g,c]
theorem g_szStepS (l:List Step) (left:Int) (h0:0≤left) (h1:left≤1048576) (hf:l.length < 2 ^ 62∧∀ y,y∈l→FwStep y):fo 13 [A (.sl 111 (l.map (sT 267))),A (vI left)]=some (R (vI (subM left (wsStep l)))):=by
 have hl:=hf.1
 unfold wsStep
 have hw:IntKind.i64.wrap (left - l.length)=left - l.length:=by rw [wrapI] <;> omega
 refine orc_13 (l.length+1) ?_
 cases c1:ltI (left - l.length) 0
 ·have p:(l.length:Int)≤left:=by simp [ltI] at c1; omega
  have hlp:=lszStepS l (by omega) hf.2 l 0 (left - l.length) rfl (by omega) (by omega)
  have ha:subM left (l.length+sumStep l)=subM (left - l.length) (sumStep l):=subM_add left l.length (sumStep l)
  rw [ha]
  simp -dsimp [Tryz.f13] at hlp
  cases c2:ltI (subM (left - l.length) (sumStep l)) 0
  ·obtain ⟨p2,e2⟩:=sub_f c2
   rw [c2] at hlp
   rw [e2]
   simp (maxSteps:=1000000) +contextual -dsimp [Tryz.f13,hw,c1,hlp]
  ·rw [c2] at hlp
   have e2:subM (left - l.length) (sumStep l)=-1:=subM_n (sub_t (by omega) c2)
   rw [e2]
   simp (maxSteps:=1000000) +contextual -dsimp [Tryz.f13,hw,c1,hlp]
 ·have hm:subM left (l.length+sumStep l)=-1:=subM_n (by simp [ltI] at c1; omega)
  rw [hm]
  simp (maxSteps:=1000000) +contextual -dsimp [Tryz.f13,hw,c1]
theorem g_szProc (x:List Step) (left:Int) (h0:0≤left) (h1:left≤1048576) (hf:FwProc x):fo 179 [A (.agg (pT 111 267 x)),A (vI left)]=some (R (vI (subM left (wProc x)))):=by
 unfold FwProc at hf
 refine orc_179 1 ?_
 have g0:=g_szStepS x (left) (by omega) (by omega) hf
 cases c0:ltI (subM (left) (wsStep x)) 0
 ·obtain ⟨p0,e0⟩:=sub_f c0
  rw [e0] at g0 c0
  have hm:subM left (wProc x)=left - (wsStep x:Nat):=by
   have:=subM_p (left:=left) (w:=wProc x) (by simp only [wProc]; omega)
   simp only [wProc] at this ⊢; omega
  rw [hm]
  simp (maxSteps:=1000000) +contextual -dsimp [Tryz.f179,g0,c0]
 ·have n0:=sub_t (by omega) c0
  have hm:subM left (wProc x)=-1:=subM_n (by simp only [wProc]; omega)
  rw [hm]
  simp (maxSteps:=1000000) +contextual -dsimp [Tryz.f179,g0,c0]
theorem lszProcS (all:List (List Step)) (hall:all.length≤1048576) (hf:∀ x,x∈all→FwProc x):∀ (rest:List (List Step)) (i:Nat) (left:Int),all.drop i=rest→0≤left→left≤1048576→
  evLoop E (orc E) (105:Nat) (rest.length+1) (loopOf Tryz.f105 0) ⟨27,[(0,.sl 225 (all.map (pT 111 267))),(1,vI left),(5,vI i)],[],2⟩=
  (if ltI (subM left (sumProc rest)) 0=true then some (.ret,⟨27,[(4,vI (-1))],[],2⟩) else some (.exit 0,⟨27,[(0,.sl 225 (all.map (pT 111 267))),(1,vI (left - (sumProc rest:Nat))),(5,vI (i+rest.length:Nat)),(15,vB false)],[],2⟩))
 | [],i,left,h,h0,h1=>by
  have hge:all.length≤i:=by simpa using h
  have hlt:ltI (i:Int) (all.length:Int)=false:=ltI_f (by omega)
  have hz:subM left 0=left:=subM_z h0
  have hn:ltI left 0=false:=ltI_f (by omega)
  rw [loop_eq]
  simp +contextual -dsimp [Tryz.f105,hlt,sumProc,hz,hn]
 | x::rest,i,left,h,h0,h1=>by
  obtain ⟨hi,hc,hr⟩:=drop_cons h
  have hlt:ltI (i:Int) (all.length:Int)=true:=ltI_t (by omega)
  have hw:IntKind.i64.wrap ((i:Int)+1)=((i+1:Nat):Int):=by rw [wrapI] <;> omega
  have he:i+1+rest.length=i+(rest.length+1):=by omega
  have g:=g_szProc x left h0 h1 (hf x (by rw [← hc]; exact List.getElem_mem _))
  have ha:subM left (sumProc (x::rest))=subM (left - wProc x) (sumProc rest):=subM_add left (wProc x) (sumProc rest)
  have hb:left - ((sumProc (x::rest):Nat):Int)=left - wProc x - (sumProc rest:Nat):=by simp only [sumProc]; omega
  cases c:ltI (subM left (wProc x)) 0
  ·obtain ⟨p,e⟩:=sub_f c
   rw [e] at g c
   have ih:=lszProcS all hall hf rest (i+1) (left - wProc x) hr (by omega) (by omega)
   rw [he] at ih
   rw [ha,hb]
   refine evLoop_next ?_ (by simpa only [List.length_cons] using ih)
   simp (maxSteps:=1000000) +contextual -dsimp [Tryz.f105,hlt,hi,hc,hw,g,c]
  ·have hn:=sub_t h0 c
   have hm:ltI (subM left (sumProc (x::rest))) 0=true:=by rw [subM_n (by simp only [sumProc]; omega)]; rfl
   rw [hm,if_pos rfl]
   refine evLoop_out ?_ (by simp)
   simp (maxSteps:=1000000) +contextual -dsimp [Tryz.f105,hlt,hi,hc,g,c]
theorem g_szProcS (l:List (List Step)) (left:Int) (h0:0≤left) (h1:left≤1048576) (hf:l.length < 2 ^ 62∧∀ y,y∈l→FwProc y):fo 105 [A (.sl 225 (l.map (pT 111 267))),A (vI left)]=some (R (vI (subM left (wsProc l)))):=by
 have hl:=hf.1
 unfold wsProc
 have hw:IntKind.i64.wrap (left - l.length)=left - l.length:=by rw [wrapI] <;> omega
 refine orc_105 (l.length+1) ?_
 cases c1:ltI (left - l.length) 0
 ·have p:(l.length:Int)≤left:=by simp [ltI] at c1; omega
  have hlp:=lszProcS l (by omega) hf.2 l 0 (left - l.length) rfl (by omega) (by omega)
  have ha:subM left (l.length+sumProc l)=subM (left - l.length) (sumProc l):=subM_add left l.length (sumProc l)
  rw [ha]
  simp -dsimp [Tryz.f105] at hlp
  cases c2:ltI (subM (left - l.length) (sumProc l)) 0
  ·obtain ⟨p2,e2⟩:=sub_f c2
   rw [c2] at hlp
   rw [e2]
   simp (maxSteps:=1000000) +contextual -dsimp [Tryz.f105,hw,c1,hlp]
  ·rw [c2] at hlp
   have e2:subM (left - l.length) (sumProc l)=-1:=subM_n (sub_t (by omega) c2)
   rw [e2]
   simp (maxSteps:=1000000) +contextual -dsimp [Tryz.f105,hw,c1,hlp]
 ·have hm:subM left (l.length+sumProc l)=-1:=subM_n (by simp [ltI] at c1; omega)
  rw [hm]
  simp (maxSteps:=1000000) +contextual -dsimp [Tryz.f105,hw,c1]
theorem g_szChart (x:Chart) (left:Int) (h0:0≤left) (h1:left≤1048576) (hf:FwChart x):fo 241 [A (.agg (cT x)),A (vI left)]=some (R (vI (subM left (wChart x)))):=by
 unfold FwChart at hf
 refine orc_241 1 ?_
 have g0:=g_szintS x.vars (left) (by omega) (by omega) hf.1
 cases c0:ltI (subM (left) (x.vars.length)) 0
 ·obtain ⟨p0,e0⟩:=sub_f c0
  rw [e0] at g0 c0
  have g1:=g_szintS x.acts (left - (x.vars.length:Nat)) (by omega) (by omega) hf.2.1
  cases c1:ltI (subM (left - (x.vars.length:Nat)) (x.acts.length)) 0
  ·obtain ⟨p1,e1⟩:=sub_f c1
   rw [e1] at g1 c1
   have g2:=g_szintS x.dues (left - (x.vars.length:Nat) - (x.acts.length:Nat)) (by omega) (by omega) hf.2.2
   cases c2:ltI (subM (left - (x.vars.length:Nat) - (x.acts.length:Nat)) (x.dues.length)) 0
   ·obtain ⟨p2,e2⟩:=sub_f c2
    rw [e2] at g2 c2
    have hm:subM left (wChart x)=left - (x.vars.length:Nat) - (x.acts.length:Nat) - (x.dues.length:Nat):=by
     have:=subM_p (left:=left) (w:=wChart x) (by simp only [wChart]; omega)
     simp only [wChart] at this ⊢; omega
    rw [hm]
    simp (maxSteps:=1000000) +contextual -dsimp [Tryz.f241,g0,g1,g2,c0,c1,c2]
   ·have n2:=sub_t (by omega) c2
    have hm:subM left (wChart x)=-1:=subM_n (by simp only [wChart]; omega)
    rw [hm]
    simp (maxSteps:=1000000) +contextual -dsimp [Tryz.f241,g0,g1,g2,c0,c1,c2]
  ·have n1:=sub_t (by omega) c1
   have hm:subM left (wChart x)=-1:=subM_n (by simp only [wChart]; omega)
   rw [hm]
   simp (maxSteps:=1000000) +contextual -dsimp [Tryz.f241,g0,g1,c0,c1]
 ·have n0:=sub_t (by omega) c0
  have hm:subM left (wChart x)=-1:=subM_n (by simp only [wChart]; omega)
  rw [hm]
  simp (maxSteps:=1000000) +contextual -dsimp [Tryz.f241,g0,c0]
theorem g_szInst (x:Inst) (left:Int) (h0:0≤left) (h1:left≤1048576) (hf:FwInst x):fo 180 [A (.agg (xT x)),A (vI left)]=some (R (vI (subM left (wInst x)))):=by
 unfold FwInst at hf
 refine orc_180 1 ?_
 have g0:=g_szChart x.chart (left) (by omega) (by omega) hf
 cases c0:ltI (subM (left) (wChart x.chart)) 0
 ·obtain ⟨p0,e0⟩:=sub_f c0
  rw [e0] at g0 c0
  have hm:subM left (wInst x)=left - (wChart x.chart:Nat):=by
   have:=subM_p (left:=left) (w:=wInst x) (by simp only [wInst]; omega)
   simp only [wInst] at this ⊢; omega
  rw [hm]
  simp (maxSteps:=1000000) +contextual -dsimp [Tryz.f180,g0,c0]
 ·have n0:=sub_t (by omega) c0
  have hm:subM left (wInst x)=-1:=subM_n (by simp only [wInst]; omega)
  rw [hm]
  simp (maxSteps:=1000000) +contextual -dsimp [Tryz.f180,g0,c0]
theorem lszInstS (all:List Inst) (hall:all.length≤1048576) (hf:∀ x,x∈all→FwInst x):∀ (rest:List Inst) (i:Nat) (left:Int),all.drop i=rest→0≤left→left≤1048576→
  evLoop E (orc E) (106:Nat) (rest.length+1) (loopOf Tryz.f106 0) ⟨27,[(0,.sl 229 (all.map xT)),(1,vI left),(5,vI i)],[],2⟩=
  (if ltI (subM left (sumInst rest)) 0=true then some (.ret,⟨27,[(4,vI (-1))],[],2⟩) else some (.exit 0,⟨27,[(0,.sl 229 (all.map xT)),(1,vI (left - (sumInst rest:Nat))),(5,vI (i+rest.length:Nat)),(15,vB false)],[],2⟩))
 | [],i,left,h,h0,h1=>by
  have hge:all.length≤i:=by simpa using h
  have hlt:ltI (i:Int) (all.length:Int)=false:=ltI_f (by omega)
  have hz:subM left 0=left:=subM_z h0
  have hn:ltI left 0=false:=ltI_f (by omega)
  rw [loop_eq]
  simp +contextual -dsimp [Tryz.f106,hlt,sumInst,hz,hn]
 | x::rest,i,left,h,h0,h1=>by
  obtain ⟨hi,hc,hr⟩:=drop_cons h
  have hlt:ltI (i:Int) (all.length:Int)=true:=ltI_t (by omega)
  have hw:IntKind.i64.wrap ((i:Int)+1)=((i+1:Nat):Int):=by rw [wrapI] <;> omega
  have he:i+1+rest.length=i+(rest.length+1):=by omega
  have g:=g_szInst x left h0 h1 (hf x (by rw [← hc]; exact List.getElem_mem _))
  have ha:subM left (sumInst (x::rest))=subM (left - wInst x) (sumInst rest):=subM_add left (wInst x) (sumInst rest)
  have hb:left - ((sumInst (x::rest):Nat):Int)=left - wInst x - (sumInst rest:Nat):=by simp only [sumInst]; omega
  cases c:ltI (subM left (wInst x)) 0
  ·obtain ⟨p,e⟩:=sub_f c
   rw [e] at g c
   have ih:=lszInstS all hall hf rest (i+1) (left - wInst x) hr (by omega) (by omega)
   rw [he] at ih
   rw [ha,hb]
   refine evLoop_next ?_ (by simpa only [List.length_cons] using ih)
   simp (maxSteps:=1000000) +contextual -dsimp [Tryz.f106,hlt,hi,hc,hw,g,c]
  ·have hn:=sub_t h0 c
   have hm:ltI (subM left (sumInst (x::rest))) 0=true:=by rw [subM_n (by simp only [sumInst]; omega)]; rfl
   rw [hm,if_pos rfl]
   refine evLoop_out ?_ (by simp)
   simp (maxSteps:=1000000) +contextual -dsimp [Tryz.f106,hlt,hi,hc,g,c]
theorem g_szInstS (l:List Inst) (left:Int) (h0:0≤left) (h1:left≤1048576) (hf:l.length < 2 ^ 62∧∀ y,y∈l→FwInst y):fo 106 [A (.sl 229 (l.map xT)),A (vI left)]=some (R (vI (subM left (wsInst l)))):=by
 have hl:=hf.1
 unfold wsInst
 have hw:IntKind.i64.wrap (left - l.length)=left - l.length:=by rw [wrapI] <;> omega
 refine orc_106 (l.length+1) ?_
 cases c1:ltI (left - l.length) 0
 ·have p:(l.length:Int)≤left:=by simp [ltI] at c1; omega
  have hlp:=lszInstS l (by omega) hf.2 l 0 (left - l.length) rfl (by omega) (by omega)
  have ha:subM left (l.length+sumInst l)=subM (left - l.length) (sumInst l):=subM_add left l.length (sumInst l)
  rw [ha]
  simp -dsimp [Tryz.f106] at hlp
  cases c2:ltI (subM (left - l.length) (sumInst l)) 0
  ·obtain ⟨p2,e2⟩:=sub_f c2
   rw [c2] at hlp
   rw [e2]
   simp (maxSteps:=1000000) +contextual -dsimp [Tryz.f106,hw,c1,hlp]
  ·rw [c2] at hlp
   have e2:subM (left - l.length) (sumInst l)=-1:=subM_n (sub_t (by omega) c2)
   rw [e2]
   simp (maxSteps:=1000000) +contextual -dsimp [Tryz.f106,hw,c1,hlp]
 ·have hm:subM left (l.length+sumInst l)=-1:=subM_n (by simp [ltI] at c1; omega)
  rw [hm]
  simp (maxSteps:=1000000) +contextual -dsimp [Tryz.f106,hw,c1]
theorem g_szClaimS (l:List Claim) (left:Int) (h0:0≤left) (h1:left≤1048576) (hl:l.length < 2 ^ 62):fo 92 [A (.sl 222 (l.map kT)),A (vI left)]=some (R (vI (subM left l.length))):=by
 have hw:IntKind.i64.wrap (left - l.length)=left - l.length:=by rw [wrapI] <;> omega
 refine orc_92 1 ?_
 simp (maxSteps:=1000000) +contextual -dsimp [Tryz.f92,subM,hw]
theorem g_szEngine (x:Engine) (left:Int) (h0:0≤left) (h1:left≤1048576) (hf:FwEngine x):fo 38 [A (.agg (eTl x)),A (vI left)]=some (R (vI (subM left (wEngine x)))):=by
 unfold FwEngine at hf
 refine orc_38 1 ?_
 have g0:=g_szProcS x.procs (left) (by omega) (by omega) hf.1
 cases c0:ltI (subM (left) (wsProc x.procs)) 0
 ·obtain ⟨p0,e0⟩:=sub_f c0
  rw [e0] at g0 c0
  have g1:=g_szInstS x.insts (left - (wsProc x.procs:Nat)) (by omega) (by omega) hf.2
  cases c1:ltI (subM (left - (wsProc x.procs:Nat)) (wsInst x.insts)) 0
  ·obtain ⟨p1,e1⟩:=sub_f c1
   rw [e1] at g1 c1
   have hm:subM left (wEngine x)=left - (wsProc x.procs:Nat) - (wsInst x.insts:Nat):=by
    have:=subM_p (left:=left) (w:=wEngine x) (by simp only [wEngine]; omega)
    simp only [wEngine] at this ⊢; omega
   rw [hm]
   simp (maxSteps:=1000000) +contextual -dsimp [Tryz.f38,g0,g1,c0,c1]
  ·have n1:=sub_t (by omega) c1
   have hm:subM left (wEngine x)=-1:=subM_n (by simp only [wEngine]; omega)
   rw [hm]
   simp (maxSteps:=1000000) +contextual -dsimp [Tryz.f38,g0,g1,c0,c1]
 ·have n0:=sub_t (by omega) c0
  have hm:subM left (wEngine x)=-1:=subM_n (by simp only [wEngine]; omega)
  rw [hm]
  simp (maxSteps:=1000000) +contextual -dsimp [Tryz.f38,g0,c0]
theorem g_szDesk (x:Desk) (left:Int) (h0:0≤left) (h1:left≤1048576) (hf:FwDesk x):fo 29 [A (.agg (dTl x)),A (vI left)]=some (R (vI (subM left (wDesk x)))):=by
 unfold FwDesk at hf
 refine orc_29 1 ?_
 have g0:=g_szEngine x.eng (left) (by omega) (by omega) hf.1
 cases c0:ltI (subM (left) (wEngine x.eng)) 0
 ·obtain ⟨p0,e0⟩:=sub_f c0
  rw [e0] at g0 c0
  have g1:=g_szClaimS x.claims (left - (wEngine x.eng:Nat)) (by omega) (by omega) hf.2
  cases c1:ltI (subM (left - (wEngine x.eng:Nat)) (x.claims.length)) 0
  ·obtain ⟨p1,e1⟩:=sub_f c1
   rw [e1] at g1 c1
   have hm:subM left (wDesk x)=left - (wEngine x.eng:Nat) - (x.claims.length:Nat):=by
    have:=subM_p (left:=left) (w:=wDesk x) (by simp only [wDesk]; omega)
    simp only [wDesk] at this ⊢; omega
   rw [hm]
   simp (maxSteps:=1000000) +contextual -dsimp [Tryz.f29,g0,g1,c0,c1]
  ·have n1:=sub_t (by omega) c1
   have hm:subM left (wDesk x)=-1:=subM_n (by simp only [wDesk]; omega)
   rw [hm]
   simp (maxSteps:=1000000) +contextual -dsimp [Tryz.f29,g0,g1,c0,c1]
 ·have n0:=sub_t (by omega) c0
  have hm:subM left (wDesk x)=-1:=subM_n (by simp only [wDesk]; omega)
  rw [hm]
  simp (maxSteps:=1000000) +contextual -dsimp [Tryz.f29,g0,c0]
end Go.TM.Ft
