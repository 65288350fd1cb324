/- What functions of the program come to, by the machine. -/
import Derived.Test.YtlmiemdojgahaaaGreatL7
import Derived.Test.YtlmiemdojgahaaaGreatL8
set_option linter.unusedSimpArgs false
set_option linter.unusedVariables false
namespace Go.TM.Ft
open Go Go.TM Go.Proofs
set_option maxRecDepth 20000
attribute [local congr] gif_cg
attribute [local simp] footOf noClash clash upsets setsHit setHits layHits layMeets setsMeet evFeet seal4_iE
def argOf (l:List Step) (k:Nat):Int:=match l[k]? with | some s=>s.arg | none=>0
def exprOf (l:List Step) (k:Nat):List Node:=match l[k]? with | some s=>s.expr | none=>[]
def goAll (go:Bool→Nat→Chart→Option Chart):List Int→Chart→Option Chart
 | [],c=>some c
 | k::r,c=>match go true k.toNat c with | some c'=>goAll go r c' | none=>none
def entC (go:Bool→Nat→Chart→Option Chart) (l:List Step) (k:Nat) (c:Chart):Option Chart:=
 if eqI (kindOf l k) 1=true then go true (szAt (kidsM k 0 l) 0).toNat c
 else if eqI (kindOf l k) 4=true then goAll go (kidsM k 0 l) c
 else if eqI (kindOf l k) 3=true then (if eqI (chooseM l c.vars (kidsM k 0 l)) (-1)=true then some (stopC l 3 c) else if eqI (chooseM l c.vars (kidsM k 0 l)) (-2)=true then some c else go true (chooseM l c.vars (kidsM k 0 l)).toNat c)
 else if eqI (kindOf l k) 8=true then go true (szAt (kidsM k 0 l) 0).toNat { c with dues:=c.dues.set k (c.now+argOf l k) }
 else if eqI (kindOf l k) 6=true then some { c with dues:=c.dues.set k (c.now+argOf l k) }
 else if eqI (kindOf l k) 7=true then (match evalM (exprOf l k) c.vars with | none=>some (stopC l 3 c) | some v=>go false k { c with vars:=c.vars.set (argOf l k).toNat v })
 else some c
def ovrP (go:Bool→Nat→Chart→Option Chart) (l:List Step) (k p:Nat) (c:Chart):Option Chart:=
 if eqI (kindOf l p) 1=true then
  (if ltI (idxI k (kidsM p 0 l)+1) (kidsM p 0 l).length=true then go true (szAt (kidsM p 0 l) (idxI k (kidsM p 0 l)+1)).toNat c else go false p c)
 else if eqI (kindOf l p) 4=true then (if hasB (notOver (c.acts.set k 2)) (kidsM p 0 l)=true then some { c with acts:=c.acts.set k 2 } else go false p { c with acts:=c.acts.set k 2 })
 else go false p c
def ovrC (go:Bool→Nat→Chart→Option Chart) (l:List Step) (k:Nat) (c:Chart):Option Chart:=
 if eqI (k:Int) 0=true then some (stopC l 2 c) else ovrP go l k (parOf l k).toNat c
def goC (l:List Step):Nat→Bool→Nat→Chart→Option Chart
 | 0,_,_,_=>none
 | f+1,true,k,c=>if eqI c.status 1=true then entC (goC l f) l k { c with acts:=c.acts.set k 1 } else some c
 | f+1,false,k,c=>ovrC (goC l f) l k (idleC (undsM l k) c)
theorem Inv.stop {l:List Step} {c:Chart} (h:Inv l c) (st:Int):Inv l (stopC l st c):=⟨h.vars,by simp [stopC],by simp [stopC],h.now0,h.now1,h.rng⟩
theorem Inv.idle {l:List Step} {c:Chart} (h:Inv l c) (ks:List Int):Inv l (idleC ks c):=⟨h.vars,by simp [idleC,zap_len,h.acts],by simp [idleC,zap_len,h.dues],h.now0,h.now1,h.rng⟩
theorem Inv.act {l:List Step} {c:Chart} (h:Inv l c) (k:Nat) (x:Int):Inv l { c with acts:=c.acts.set k x }:=⟨h.vars,by simp [h.acts],h.dues,h.now0,h.now1,h.rng⟩
theorem Inv.due {l:List Step} {c:Chart} (h:Inv l c) (k:Nat) (x:Int):Inv l { c with dues:=c.dues.set k x }:=⟨h.vars,h.acts,by simp [h.dues],h.now0,h.now1,h.rng⟩
theorem Inv.var {l:List Step} {c:Chart} (h:Inv l c) (k:Nat) {x:Int} (hx:badV x=false):Inv l { c with vars:=c.vars.set k x }:=⟨by simp [h.vars],h.acts,h.dues,h.now0,h.now1,fun y hy=>by
 rcases List.mem_or_eq_of_mem_set hy with h1 | h1
 ·exact h.rng y h1
 ·rw [h1]; exact hx⟩
section
variable {l:List Step}
theorem Wf.kidsN (w:Wf l) {k:Nat} (hk:k < l.length):inR (kidsM k 0 l).length (kidB (kindOf l k)).1 (kidB (kindOf l k)).2=true:=by
 have hc:=w.ok.cond k hk
 unfold condFaultM at hc
 have hcode:condCode l k=0:=by
  split at hc
  ·exact hc
  ·rename_i c
   simp [orB,notB,eqI] at c
   exact c.1
 have:=(first2_zero hcode).1
 cases h:inR (kidsM k 0 l).length (kidB (kindOf l k)).1 (kidB (kindOf l k)).2
 ·rw [h] at this; simp [notB] at this
 ·rfl
theorem Wf.kid (w:Wf l) {p:Nat} {x:Int} (hx:x∈kidsM p 0 l):∃ a:Nat,x=a∧a < l.length∧p < a∧parOf l a=p:=by
 rw [proc_kids w.ok] at hx
 obtain ⟨a,ha,h1,h2⟩:=kids4_iff.1 hx
 rw [Nat.zero_add] at h1
 refine ⟨a,h1,ha,?_,by rw [parOf_at ha]; exact h2⟩
 rcases Nat.eq_zero_or_pos a with h | h
 ·subst h
  have:=w.ok.par0 ha
  omega
 ·obtain ⟨q,h3,h4⟩:=w.ok.par a ha h
  omega
theorem Wf.kid_of (w:Wf l) {p k:Nat} (hk:k < l.length) (hp:parOf l k=p):(k:Int)∈kidsM p 0 l:=by
 rw [proc_kids w.ok]
 exact kids4_iff.2 ⟨k,hk,by simp,by rw [← parOf_at hk]; exact hp⟩
theorem Wf.kids24 (w:Wf l) (p:Nat):(kidsM p 0 l).length≤24:=by
 have:=kids_few p l 0
 have:=w.ok.le
 omega
theorem szAt_mem {ks:List Int} {n:Nat} (h:n < ks.length):szAt ks (n:Int)∈ks:=by rw [szAt_lt h]; exact List.getElem_mem h
theorem Wf.arg (w:Wf l) {k:Nat} (hk:k < l.length) (h:kindOf l k=6∨kindOf l k=8):1≤argOf l k∧argOf l k≤99:=by
 have p:=(one_parts (w.at hk)).2.2.2.2.2.2.1
 rw [kindOf_at hk] at h
 have e:argOf l k=(l[k]).arg:=by simp [argOf,hk]
 rw [e]
 rcases h with h | h <;> rw [h] at p <;> simp [argM,eqI,inR,andB,leI] at p <;> exact p
def GoOk (l:List Step) (go:Bool→Nat→Chart→Option Chart):Prop:=
 ∀ b k c c',Inv l c→k < l.length→go b k c=some c'→fo (if b=true then 171 else 193) [aB l c,A (vI k)]=some (RB l c')∧Inv l c'
theorem GoOk.ent {go} (g:GoOk l go) {k:Nat} {c c':Chart} (h:Inv l c) (hk:k < l.length) (hc:go true k c=some c'):fo 171 [aB l c,A (vI k)]=some (RB l c')∧Inv l c':=g true k c c' h hk hc
theorem GoOk.ovr {go} (g:GoOk l go) {k:Nat} {c c':Chart} (h:Inv l c) (hk:k < l.length) (hc:go false k c=some c'):fo 193 [aB l c,A (vI k)]=some (RB l c')∧Inv l c':=g false k c c' h hk hc
set_option maxHeartbeats 1000000 in
theorem lp171 (w:Wf l) {go} (g:GoOk l go) (all:List Int) (hall:all.length≤24) (hks:∀ k,k∈all→∃ x:Nat,k=x∧x < l.length):∀ (rest:List Int) (i:Nat) (c c':Chart),all.drop i=rest→Inv l c→goAll go rest c=some c'→
  evLoop E (orc E) (171:Nat) (rest.length+1) (loopOf Tryz.f171 0) ⟨130,[(0,.ptr 0 0 [] 0),(47,iS all),(48,vI all.length),(49,vI i)],[(0,⟨0,1,true,bO l c⟩)],2⟩=
  some (.exit 1,⟨130,[(0,.ptr 0 0 [] 0),(47,iS all),(48,vI all.length),(49,vI (i+rest.length:Nat)),(50,vB false)],[(0,⟨0,1,true,bO l c'⟩)],2⟩)∧Inv l c'
 | [],i,c,c',h,hI,hg=>by
  have hge:all.length≤i:=by simpa using h
  have hlt:ltI (i:Int) (all.length:Int)=false:=ltI_f (by omega)
  simp only [goAll,Option.some.injEq] at hg; subst hg
  refine ⟨?_,hI⟩
  rw [loop_eq]
  simp +contextual -dsimp [Tryz.f171,hlt]
 | k::rest,i,c,c',h,hI,hg=>by
  obtain ⟨hi,hc,hr⟩:=drop_cons h
  obtain ⟨x,hx,hxl⟩:=hks k (by rw [← hc]; exact List.getElem_mem _)
  have hlt:=ltN_t hi
  have hw:=wrap1 hi (by omega)
  have he:i+1+rest.length=i+(rest.length+1):=by omega
  unfold goAll at hg
  rw [hx,Int.toNat_natCast] at hg
  cases q:go true x c with
  | none=>rw [q] at hg; simp at hg
  | some c1=>
   rw [q] at hg
   obtain ⟨g1,g2⟩:=g.ent hI hxl q
   obtain ⟨ih,hI'⟩:=lp171 w g all hall hks rest (i+1) c1 c' hr g2 hg
   rw [he] at ih
   refine ⟨evLoop_next ?_ (by simpa only [List.length_cons] using ih),hI'⟩
   rw [hx] at hc
   simp (maxSteps:=1000000) +contextual -dsimp [Tryz.f171,hlt,hi,hc,hw,g1]
set_option maxHeartbeats 8000000 in
theorem f_enter (w:Wf l) {go} (g:GoOk l go) (k:Nat) (hk:k < l.length) (c c':Chart) (hI:Inv l c)
  (h:(if eqI c.status 1=true then entC go l k { c with acts:=c.acts.set k 1 } else some c)=some c'):fo 171 [aB l c,A (vI k)]=some (RB l c')∧Inv l c':=by
 have hl24:=w.ok.le
 cases q0:eqI c.status 1
 ·rw [q0,if_neg (by simp)] at h
  simp only [Option.some.injEq] at h; subst h
  refine ⟨?_,hI⟩
  refine orc_171 1 ?_
  simp (maxSteps:=1000000) +contextual -dsimp [Tryz.f171,q0]
 rw [q0,if_pos rfl] at h
 have gk:=f_kids l (by omega) k
 have hka:k < c.acts.length:=by rw [hI.acts]; exact hk
 have hkd:k < c.dues.length:=by rw [hI.dues]; exact hk
 have hkk:(l[k]).kind=kindOf l k:=(kindOf_at hk).symm
 have hkg:(l[k]).arg=argOf l k:=by simp [argOf,hk]
 have hkx:(l[k]).expr=exprOf l k:=by simp [exprOf,hk]
 have hn:=w.kidsN hk
 have h24:=w.kids24 k
 obtain ⟨c1,hc1⟩:∃ c1:Chart,c1={ c with acts:=c.acts.set k 1 }:=⟨_,rfl⟩
 have hI1:Inv l c1:=by rw [hc1]; exact hI.act k 1
 have e1:c1.status=c.status:=by rw [hc1]
 have e2:c1.now=c.now:=by rw [hc1]
 have e3:c1.vars=c.vars:=by rw [hc1]
 have e4:c1.acts=c.acts.set k 1:=by rw [hc1]
 have e5:c1.dues=c.dues:=by rw [hc1]
 rw [← hc1] at h
 generalize hks:kidsM k 0 l=ks at *
 have hkm:∀ x,x∈ks→∃ a:Nat,x=a∧a < l.length:=fun x hx=>by
  rw [← hks] at hx
  obtain ⟨a,h1,h2,_⟩:=w.kid hx
  exact ⟨a,h1,h2⟩
 unfold entC at h
 rw [hks] at h
 cases q1:eqI (kindOf l k) 1
 ·cases q4:eqI (kindOf l k) 4
  ·cases q3:eqI (kindOf l k) 3
   ·cases q8:eqI (kindOf l k) 8
    ·cases q6:eqI (kindOf l k) 6
     ·cases q7:eqI (kindOf l k) 7
      ·simp only [q1,q4,q3,q8,q6,q7,Bool.false_eq_true,if_false,Option.some.injEq] at h
       subst h
       refine ⟨?_,hI1⟩
       refine orc_171 1 ?_
       simp (maxSteps:=1000000) +contextual -dsimp [Tryz.f171,q0,hk,hka,gk,hkk,q1,q4,q3,q8,q6,q7,e1,e2,e3,e4,e5,List.set]
      ·simp only [q1,q4,q3,q8,q6,q7,Bool.false_eq_true,if_false,if_true] at h
       have h7:(l[k]).kind=7:=by rw [hkk]; simpa [eqI] using q7
       obtain ⟨okx,a0,a3⟩:=w.expr hk h7
       rw [hkx] at okx
       rw [hkg] at a0 a3
       obtain ⟨m,hm⟩:=Int.eq_ofNat_of_zero_le a0
       have hml:m < c.vars.length:=by rw [hI.vars]; omega
       have ge:=f_eval (exprOf l k) okx c.vars hI.vars
       rw [e3] at h
       cases ev:evalM (exprOf l k) c.vars with
       | none=>
        rw [ev] at h ge
        simp only [RE] at ge
        simp only [Option.some.injEq] at h
        have gs:=f_stop l (by omega) c1 3
        subst h
        refine ⟨?_,hI1.stop 3⟩
        rw [hc1] at gs ⊢
        simp only [aB,bO,RB,stopC,iE,List.map_set] at gs ⊢
        refine orc_171 1 ?_
        simp (maxSteps:=1000000) +contextual -dsimp [Tryz.f171,q0,hk,hka,gk,hkk,hkx,q1,q4,q3,q8,q6,q7,ge,gs,List.set]
       | some v=>
        rw [ev] at h ge
        simp only [RE] at ge
        simp only [hm,Int.toNat_natCast] at h
        obtain ⟨g1,g2⟩:=g.ovr (hI1.var m (eval_good okx ev)) hk (by rw [e3]; exact h)
        rw [hc1] at g1
        simp only [aB,bO,RB,iE,List.map_set] at g1
        refine ⟨?_,g2⟩
        refine orc_171 1 ?_
        simp (maxSteps:=1000000) +contextual -dsimp [Tryz.f171,q0,hk,hka,gk,hkk,hkx,hkg,hm,hml,q1,q4,q3,q8,q6,q7,ge,g1,List.set]
     ·simp only [q1,q4,q3,q8,q6,Bool.false_eq_true,if_false,if_true,Option.some.injEq] at h
      obtain ⟨a1,a2⟩:=w.arg hk (.inl (by simpa [eqI] using q6))
      have hw:IntKind.i64.wrap (c.now+argOf l k)=c.now+argOf l k:=by have:=hI.now0; have:=hI.now1; rw [wrapI] <;> omega
      subst h
      refine ⟨?_,by simpa only [e5,e2] using hI1.due k (c.now+argOf l k)⟩
      refine orc_171 1 ?_
      simp (maxSteps:=1000000) +contextual -dsimp [Tryz.f171,q0,hk,hka,hkd,gk,hkk,hkg,hw,q1,q4,q3,q8,q6,e1,e2,e3,e4,e5,List.set]
    ·simp only [q1,q4,q3,q8,Bool.false_eq_true,if_false,if_true] at h
     have h8:kindOf l k=8:=by simpa [eqI] using q8
     obtain ⟨a1,a2⟩:=w.arg hk (.inr h8)
     have hw:IntKind.i64.wrap (c.now+argOf l k)=c.now+argOf l k:=by have:=hI.now0; have:=hI.now1; rw [wrapI] <;> omega
     rw [h8] at hn
     obtain ⟨x,r,rfl⟩:∃ x r,ks=x::r:=by
      cases ks with
      | nil=>simp [kidB,eqI,inR,andB,leI] at hn
      | cons x r=>exact ⟨x,r,rfl⟩
     obtain ⟨y,rfl,hyl⟩:=hkm x (by simp)
     have es:szAt ((y:Int)::r) 0=y:=rfl
     rw [es,Int.toNat_natCast] at h
     obtain ⟨g1,g2⟩:=g.ent (hI1.due k (c1.now+argOf l k)) hyl h
     rw [hc1] at g1
     simp only [aB,bO,RB,iE,List.map_set] at g1
     refine ⟨?_,g2⟩
     refine orc_171 1 ?_
     simp (maxSteps:=1000000) +contextual -dsimp [Tryz.f171,q0,hk,hka,hkd,gk,hkk,hkg,hw,q1,q4,q3,q8,g1,List.set]
   ·simp only [q1,q4,q3,Bool.false_eq_true,if_false,if_true] at h
    have hcm:chooseM l c1.vars ks=-1∨chooseM l c1.vars ks=-2∨chooseM l c1.vars ks∈ks:=by
     clear h hn h24 hks gk
     induction ks with
     | nil=>exact .inr (.inl rfl)
     | cons x r ih=>
      have ih:=ih (fun y hy=>hkm y (by simp [hy]))
      unfold chooseM pickV
      split
      ·split
       ·exact .inl rfl
       ·split
        ·exact .inr (.inr (by simp))
        ·rcases ih with h | h | h
         ·exact .inl h
         ·exact .inr (.inl h)
         ·exact .inr (.inr (by simp [h]))
      ·exact .inr (.inr (by simp))
    have key:(chooseM l c1.vars ks=-2→c'=c1)∧(chooseM l c1.vars ks=-1→c'=stopC l 3 c1)∧(0≤chooseM l c1.vars ks→fo 171 [aB l c1,A (vI (chooseM l c1.vars ks))]=some (RB l c'))∧Inv l c':=by
     rcases hcm with q | q | q
     ·rw [q] at h ⊢
      simp [eqI] at h
      subst h
      exact ⟨fun h=>absurd h (by omega),fun _=>rfl,fun h=>absurd h (by omega),hI1.stop 3⟩
     ·rw [q] at h ⊢
      simp [eqI] at h
      subst h
      exact ⟨fun _=>rfl,fun h=>absurd h (by omega),fun h=>absurd h (by omega),hI1⟩
     ·obtain ⟨y,hy,hyl⟩:=hkm _ q
      rw [hy] at h ⊢
      rw [if_neg (by simp [eqI] <;> omega),if_neg (by simp [eqI] <;> omega),Int.toNat_natCast] at h
      obtain ⟨g1,g2⟩:=g.ent hI1 hyl h
      exact ⟨fun h=>absurd h (by omega),fun h=>absurd h (by omega),fun _=>g1,g2⟩
    obtain ⟨k0,k1,k2,k3⟩:=key
    have gc:=f_choose w c1 hI1.vars ks h24 hkm c' k0 k1 k2
    rw [hc1] at gc
    simp only [aB,bO,RB,iE,List.map_set] at gc
    refine ⟨?_,k3⟩
    refine orc_171 1 ?_
    simp (maxSteps:=1000000) +contextual -dsimp [Tryz.f171,q0,hk,hka,gk,hkk,q1,q4,q3,gc,List.set]
  ·simp only [q1,q4,Bool.false_eq_true,if_false,if_true] at h
   obtain ⟨g1,g2⟩:=lp171 w g ks h24 hkm ks 0 c1 c' rfl hI1 h
   refine ⟨?_,g2⟩
   rw [hc1] at g1
   simp only [bO,iE,List.map_set] at g1
   simp -dsimp [Tryz.f171] at g1
   refine orc_171 (ks.length+1) ?_
   simp (maxSteps:=1000000) +contextual -dsimp [Tryz.f171,q0,hk,hka,gk,hkk,q1,q4,g1,List.set]
 ·simp only [q1,if_true] at h
  have h1:kindOf l k=1:=by simpa [eqI] using q1
  rw [h1] at hn
  obtain ⟨x,r,rfl⟩:∃ x r,ks=x::r:=by
   cases ks with
   | nil=>simp [kidB,eqI,inR,andB,leI] at hn
   | cons x r=>exact ⟨x,r,rfl⟩
  obtain ⟨y,rfl,hyl⟩:=hkm x (by simp)
  have es:szAt ((y:Int)::r) 0=y:=rfl
  rw [es,Int.toNat_natCast] at h
  obtain ⟨g1,g2⟩:=g.ent hI1 hyl h
  rw [hc1] at g1
  simp only [aB,bO,RB,iE,List.map_set] at g1
  refine ⟨?_,g2⟩
  refine orc_171 1 ?_
  simp (maxSteps:=1000000) +contextual -dsimp [Tryz.f171,q0,hk,hka,gk,hkk,q1,g1,List.set]
end
end Go.TM.Ft
namespace Go.TM.Ft
open Go Go.TM Go.Proofs
set_option maxRecDepth 20000
attribute [local congr] gif_cg
attribute [local simp] footOf noClash clash upsets setsHit setHits layHits layMeets setsMeet evFeet seal4_iE
theorem idxM_found {p:Int→Bool}:∀ {l:List Int} {i:Nat},(∃ x,x∈l∧p x=true)→∃ j:Nat,idxM p i l=(i+j:Nat)∧j < l.length∧p (szAt l j)=true
 | [],i,h=>by obtain ⟨x,hx,_⟩:=h; simp at hx
 | y::l,i,h=>by
  unfold idxM
  cases c:p y
  ·have h2:∃ x,x∈l∧p x=true:=by
    obtain ⟨x,hx,hp⟩:=h
    rcases List.mem_cons.1 hx with rfl | hx
    ·rw [c] at hp; simp at hp
    ·exact ⟨x,hx,hp⟩
   obtain ⟨j,h3,h4,h5⟩:=idxM_found (i:=i+1) h2
   refine ⟨j+1,by simp; rw [h3]; omega,by simp; omega,?_⟩
   rw [szAt_lt (by simp; omega)]
   rw [szAt_lt h4] at h5
   simpa using h5
  ·exact ⟨0,by simp,by simp,by rw [szAt_lt (by simp)]; simpa using c⟩
theorem idxI_found {v:Int} {l:List Int} (h:v∈l):∃ j:Nat,idxI v l=j∧j < l.length∧szAt l j=v:=by
 obtain ⟨j,h1,h2,h3⟩:=idxM_found (p:=fun x=>eqI v x) (i:=0) ⟨v,h,by simp [eqI]⟩
 rw [Nat.zero_add] at h1
 refine ⟨j,h1,h2,?_⟩
 have:v=szAt l j:=by simpa [eqI] using h3
 exact this.symm
theorem seal4_set (l:List Int) (k:Nat) (x:Int):sealEs ((iE l).set k [vI x])=(iE l).set k [vI x]:=by
 have:(iE l).set k [vI x]=iE (l.set k x):=by simp [iE]
 rw [this]; exact seal4_iE _
attribute [local simp] seal4_set
section
variable {l:List Step}
set_option maxHeartbeats 8000000 in
theorem f_over (w : Wf l) {go} (g : GoOk l go) (k : Nat) (hk : k < l.length) (c c' : Chart) (hI : Inv l c)
    (h : ovrC go l k (idleC (undsM l k) c) = some c') : fo 193 [aB l c, A (vI k)] = some (RB l c') ∧ Inv l c' := by
  have hl24 := w.ok.le
  have gi := f_idle w c hI.acts hI.dues k hk
  obtain ⟨c1, hc1⟩ : ∃ c1 : Chart, c1 = idleC (undsM l k) c := ⟨_, rfl⟩
  have hI1 : Inv l c1 := by rw [hc1]; exact hI.idle _
  rw [← hc1] at gi h
  unfold ovrC at h
  cases q0 : eqI (k : Int) 0
  · rw [q0, if_neg (by simp)] at h
    have hk0 : 0 < k := by rcases Nat.eq_zero_or_pos k with e | e; · subst e; simp [eqI] at q0
                           · exact e
    obtain ⟨p, hp, hpk⟩ := w.par hk hk0
    have hpl : p < l.length := by omega
    rw [hp, Int.toNat_natCast] at h
    have hp' : (l[k]).parent = (p : Int) := by rw [← parOf_at hk]; exact hp
    have hkp : (l[p]).kind = kindOf l p := (kindOf_at hpl).symm
    have gk := f_kids l (by omega) p
    have hka : k < c1.acts.length := by rw [hI1.acts]; exact hk
    have h24 := w.kids24 p
    have hmem := w.kid_of hk hp
    unfold ovrP at h
    generalize hks : kidsM p 0 l = ks at *
    have hkm : ∀ x, x ∈ ks → ∃ a : Nat, x = a ∧ a < l.length := fun x hx => by
      rw [← hks] at hx
      obtain ⟨a, h1, h2, _⟩ := w.kid hx
      exact ⟨a, h1, h2⟩
    cases q1 : eqI (kindOf l p) 1
    · cases q4 : eqI (kindOf l p) 4
      · simp only [q1, q4, Bool.false_eq_true, if_false] at h
        obtain ⟨g1, g2⟩ := g.ovr hI1 hpl h
        refine ⟨?_, g2⟩
        refine orc_193 1 ?_
        simp (maxSteps := 1000000) +contextual -dsimp [Tryz.f193, gi, q0, hk, hp', hpl, hkp, gk, q1, q4, g1, List.set]
      · simp only [q1, q4, Bool.false_eq_true, if_false, if_true] at h
        obtain ⟨c2, hc2⟩ : ∃ c2 : Chart, c2 = { c1 with acts := c1.acts.set k 2 } := ⟨_, rfl⟩
        have hI2 : Inv l c2 := by rw [hc2]; exact hI1.act k 2
        have ea : c2.acts = c1.acts.set k 2 := by rw [hc2]
        rw [← hc2, ← ea] at h
        have gn := f_ContClo (g := 249) (cap := [.ipt (bT l c2)]) (by simp) (notOver c2.acts) ks (by omega) (fun x hx => by
          obtain ⟨a, rfl, ha⟩ := hkm x hx
          exact f_notOver l c2 a (by rw [hI2.acts]; exact ha))
        cases q5 : hasB (notOver c2.acts) ks
        · rw [q5] at h gn
          simp only [Bool.false_eq_true, if_false] at h
          obtain ⟨g1, g2⟩ := g.ovr hI2 hpl h
          refine ⟨?_, g2⟩
          rw [hc2] at gn g1
          simp only [aB, bO, bT, iS, RB, iE, List.map_set] at gn g1
          refine orc_193 1 ?_
          simp (maxSteps := 1000000) +contextual -dsimp [Tryz.f193, gi, q0, hk, hka, hp', hpl, hkp, gk, q1, q4, gn, g1, List.set]
        · rw [q5] at h gn
          simp only [if_true, Option.some.injEq] at h
          subst h
          refine ⟨?_, hI2⟩
          rw [hc2] at gn ⊢
          simp only [aB, bO, bT, iS, RB, iE, List.map_set] at gn ⊢
          refine orc_193 1 ?_
          simp (maxSteps := 1000000) +contextual -dsimp [Tryz.f193, gi, q0, hk, hka, hp', hpl, hkp, gk, q1, q4, gn, List.set]
    · simp only [q1, if_true] at h
      have gx := f_Index ks (by omega) k
      obtain ⟨j, e1, e2, e3⟩ := idxI_found hmem
      rw [e1] at h gx
      obtain ⟨j1, hj1⟩ : ∃ j1, j1 = j + 1 := ⟨_, rfl⟩
      have hw : IntKind.i64.wrap ((j : Int) + 1) = (j1 : Int) := by rw [wrapI] <;> omega
      have hj2 : (j : Int) + 1 = (j1 : Int) := by omega
      rw [hj2] at h
      cases q2 : ltI (j1 : Int) ks.length
      · rw [q2, if_neg (by simp)] at h
        obtain ⟨g1, g2⟩ := g.ovr hI1 hpl h
        refine ⟨?_, g2⟩
        refine orc_193 1 ?_
        simp (maxSteps := 1000000) +contextual -dsimp [Tryz.f193, gi, q0, hk, hp', hpl, hkp, gk, q1, gx, hw, q2, g1, List.set]
      · rw [q2, if_pos rfl] at h
        have hj : j1 < ks.length := by simp [ltI] at q2; omega
        obtain ⟨y, hy, hyl⟩ := hkm _ (szAt_mem hj)
        have hy2 : ks[j1] = (y : Int) := by rw [← szAt_lt hj]; exact hy
        rw [hy, Int.toNat_natCast] at h
        obtain ⟨g1, g2⟩ := g.ent hI1 hyl h
        refine ⟨?_, g2⟩
        refine orc_193 1 ?_
        simp (maxSteps := 1000000) +contextual -dsimp [Tryz.f193, gi, q0, hk, hp', hpl, hkp, gk, q1, gx, hw, q2, hj, hy2, g1, List.set]
  · rw [q0, if_pos rfl] at h
    simp only [Option.some.injEq] at h
    subst h
    have gs := f_stop l (by omega) c1 2
    refine ⟨?_, hI1.stop 2⟩
    refine orc_193 1 ?_
    simp (maxSteps := 1000000) +contextual -dsimp [Tryz.f193, gi, q0, gs, List.set]
theorem goC_ok (w:Wf l):∀ f,GoOk l (goC l f)
 | 0,_,_,_,_,_,_,h=>by simp [goC] at h
 | f+1,true,k,c,c',hI,hk,h=>by
  unfold goC at h
  exact f_enter w (goC_ok w f) k hk c c' hI h
 | f+1,false,k,c,c',hI,hk,h=>by
  unfold goC at h
  exact f_over w (goC_ok w f) k hk c c' hI h
end
end Go.TM.Ft
namespace Go.TM.Ft
open Go Go.TM Go.Proofs
set_option maxRecDepth 20000
attribute [local congr] gif_cg
attribute [local simp] footOf noClash clash upsets setsHit setHits layHits layMeets setsMeet evFeet seal4_iE seal4_set pr_mulX
theorem f_l3Bool (b:Bool):fo 297 [A (vB b)]=some (R (vI (ci b 1))):=by
 refine orc_297 1 ?_
 cases b <;> simp (maxSteps:=1000000) +contextual -dsimp [Tryz.f297,ci]
def one4 (k a b:Int):Int × Bool:=if zdiv k b=true then (0,false) else (rawM k a b,notB (badV (rawM k a b)))
set_option maxHeartbeats 1000000 in
theorem f_l3One (k a b:Int) (ha1:-1000000≤a) (ha2:a≤1000000) (hb1:-1000000≤b) (hb2:b≤1000000):
  fo 271 [A (vI k),A (vI a),A (vI b)]=some (R2 (vI (one4 k a b).1) (vB (one4 k a b).2)):=by
 have hm:=mul_bd ha1 ha2 hb1 hb2
 have hd:=tdiv_bd (b:=b) ha1 ha2
 have w1:IntKind.i64.wrap (a+b)=a+b:=by rw [wrapI] <;> omega
 have w2:IntKind.i64.wrap (a - b)=a - b:=by rw [wrapI] <;> omega
 have w3:IntKind.i64.wrap (a*b)=a*b:=by rw [wrapI] <;> omega
 have w4:IntKind.i64.wrap (Int.tdiv a b)=Int.tdiv a b:=by rw [wrapI] <;> omega
 have w5:IntKind.i64.wrap (1 - a)=1 - a:=by rw [wrapI] <;> omega
 have hn:∀ v,notB (badV v)=inR v (-1000000) 1000000:=fun v=>by simp [badV,notB]
 refine orc_271 1 ?_
 by_cases h3:k=3
 ·subst h3
  simp (maxSteps:=1000000) +contextual -dsimp [Tryz.f271,w1,one4,zdiv,rawM,hn,f_l1In,eqI_self,show eqI 3 6=false from rfl,andB]
 by_cases h4:k=4
 ·subst h4
  simp (maxSteps:=1000000) +contextual -dsimp [Tryz.f271,w2,one4,zdiv,rawM,hn,f_l1In,eqI_self,show eqI 4 6=false from rfl,show eqI 4 3=false from rfl,andB]
 by_cases h5:k=5
 ·subst h5
  simp (maxSteps:=1000000) +contextual -dsimp [Tryz.f271,w3,one4,zdiv,rawM,hn,f_l1In,eqI_self,show eqI 5 6=false from rfl,show eqI 5 3=false from rfl,show eqI 5 4=false from rfl,andB]
 by_cases h6:k=6
 ·subst h6
  by_cases hb:b=0
  ·subst hb
   simp (maxSteps:=1000000) +contextual -dsimp [Tryz.f271,one4,zdiv,eqI_self,show eqI 6 3=false from rfl,show eqI 6 4=false from rfl,show eqI 6 5=false from rfl,andB]
  ·have q:=pr_quoX Tryz.prog 2 (.tmp 31) (.tmp 32) a b hb
   have hb':eqI b 0=false:=by simp [eqI,hb]
   simp (maxSteps:=1000000) +contextual -dsimp [Tryz.f271,w4,q,hb',one4,zdiv,rawM,hn,f_l1In,eqI_self,show eqI 6 3=false from rfl,show eqI 6 4=false from rfl,show eqI 6 5=false from rfl,andB]
 by_cases h7:k=7
 ·subst h7
  simp (maxSteps:=1000000) +contextual -dsimp [Tryz.f271,f_l3Bool,one4,zdiv,rawM,hn,f_l1In,eqI_self,show eqI 7 6=false from rfl,show eqI 7 3=false from rfl,show eqI 7 4=false from rfl,show eqI 7 5=false from rfl,andB]
 by_cases h8:k=8
 ·subst h8
  simp (maxSteps:=1000000) +contextual -dsimp [Tryz.f271,f_l3Bool,one4,zdiv,rawM,hn,f_l1In,eqI_self,show eqI 8 6=false from rfl,show eqI 8 3=false from rfl,show eqI 8 4=false from rfl,show eqI 8 5=false from rfl,show eqI 8 7=false from rfl,andB]
 have f3:eqI k 3=false:=by simp [eqI,h3]
 have f4:eqI k 4=false:=by simp [eqI,h4]
 have f5:eqI k 5=false:=by simp [eqI,h5]
 have f6:eqI k 6=false:=by simp [eqI,h6]
 have f7:eqI k 7=false:=by simp [eqI,h7]
 have f8:eqI k 8=false:=by simp [eqI,h8]
 cases q9:eqI k 9
 ·simp (maxSteps:=1000000) +contextual -dsimp [Tryz.f271,w5,one4,zdiv,rawM,hn,f_l1In,f3,f4,f5,f6,f7,f8,q9,andB]
 ·simp (maxSteps:=1000000) +contextual -dsimp [Tryz.f271,w3,one4,zdiv,rawM,hn,f_l1In,f3,f4,f5,f6,f7,f8,q9,andB]
abbrev ev4S (l:List Node) (vars:List Int) (i:Nat) (acc:List Int):St:=
 ⟨65,[(0,nS 219 l),(1,iS vars),(6,.ref 6 1 [] 0 acc.length),(7,vI i)],[(6,⟨1,1,false,[.own 2 (iE acc)]⟩)],2⟩
set_option maxHeartbeats 4000000 in
theorem lp227 (l:List Node) (ok:ExprOk l) (vars:List Int) (hv:vars.length=4) (hr:∀ x,x∈vars→badV x=false):
  Goes 0 (fun acc=>⟨65,[(0,nS 219 l),(1,iS vars),(6,.ref 6 1 [] 0 acc.length),(7,vI l.length),(16,vB false)],[(6,⟨1,1,false,[.own 2 (iE acc)]⟩)],2⟩)
   (fun _ st=>∃ rt,st=⟨65,[(4,vI 0),(5,vB false)],rt,2⟩) (evLoop E (orc E) (227:Nat) (l.length+1) (loopOf Tryz.f227 0) (ev4S l vars 0 [])) (foldS (evG vars) 0 [] l):=by
 have hle:=ok.le
 have h:=loop_list (f:=227) (id:=0) (code:=loopOf Tryz.f227 0) l (Vals l) (ev4S l vars) (evG vars) (fun acc=>⟨65,[(0,nS 219 l),(1,iS vars),(6,.ref 6 1 [] 0 acc.length),(7,vI l.length),(16,vB false)],[(6,⟨1,1,false,[.own 2 (iE acc)]⟩)],2⟩)
  (fun _ st=>∃ rt,st=⟨65,[(4,vI 0),(5,vB false)],rt,2⟩)
 refine h ?_ ?_ l 0 [] rfl (Nat.zero_le _) ⟨rfl,fun k h=>by simp at h,fun k h=>by simp at h⟩
 ·intro k s _
  have hlt:=ltN_f l.length
  simp +contextual -dsimp [Tryz.f227,hlt]
 ·intro k i acc hi hI
  have hn:l[i]?=some l[i]:=List.getElem?_eq_getElem hi
  have hal:=hI.len
  have hlt:=ltN_t hi
  have hw:=wrap1 hi (by omega)
  have hm1:acc.length+1≤maxElems:=by unfold maxElems; omega
  unfold evG nodeBad
  generalize hc:l[i]=n at *
  have nk:=node_kinds (ok.node i n hn)
  have nx:badV (nodeV vars acc n)=false→Vals l (i+1) (acc++[nodeV vars acc n]):=fun hb=>by
   have:=hI.next ok hi (vars:=vars)
   rw [hc] at this
   exact this hb
  generalize hnv:nodeV vars acc n=v at *
  by_cases k1:n.kind=1
  ·have ev:v=n.value:=by rw [← hnv]; simp [nodeV,k1,eqI]
   have ez:zdiv n.kind (szAt acc n.right)=false:=by simp [zdiv,k1,eqI,andB]
   rw [← ev] at nk
   cases hb:badV v
   ·refine ⟨fun s' hs=>?_,fun e he=>by simp [ez,hb,orB] at he⟩
    simp [ez,hb,orB] at hs
    subst hs
    refine ⟨?_,nx hb⟩
    simp (maxSteps:=1000000) +contextual -dsimp [Tryz.f227,hlt,hi,hc,hw,hm1,k1,← ev,show eqI 1 2=false from rfl,show ltI 2 1=false from rfl,List.set]
   ·exfalso
    simp [badV,notB,inR,andB,leI] at hb
    omega
  by_cases k2:n.kind=2
  ·obtain ⟨m,hm⟩:=Int.eq_ofNat_of_zero_le (show 0≤n.value by omega)
   have hml:m < vars.length:=by omega
   have ev:v=vars[m]:=by rw [← hnv]; unfold nodeV; rw [if_neg (by simp [k2,eqI]),if_pos (by simp [k2,eqI]),hm,szAt_lt hml]
   have ez:zdiv n.kind (szAt acc n.right)=false:=by simp [zdiv,k2,eqI,andB]
   have hb:badV v=false:=by rw [ev]; exact hr _ (List.getElem_mem _)
   refine ⟨fun s' hs=>?_,fun e he=>by simp [ez,hb,orB] at he⟩
   simp [ez,hb,orB] at hs
   subst hs
   refine ⟨?_,nx hb⟩
   simp (maxSteps:=1000000) +contextual -dsimp [Tryz.f227,hlt,hi,hc,hw,hm1,k2,hm,hml,← ev,eqI_self,show ltI 2 2=false from rfl,List.set]
  have k3:2 < n.kind:=by omega
  obtain ⟨a,ha⟩:=Int.eq_ofNat_of_zero_le (show 0≤n.left by omega)
  obtain ⟨b,hb⟩:=Int.eq_ofNat_of_zero_le (show 0≤n.right by omega)
  have hal2:a < acc.length:=by omega
  have hbl2:b < acc.length:=by omega
  have ra:=hI.rng a hal2
  have rb:=hI.rng b hbl2
  have e2:eqI n.kind 2=false:=by simp [eqI]; omega
  have e3:ltI 2 n.kind=true:=by simp [ltI]; omega
  have ev:v=rawM n.kind acc[a] acc[b]:=by rw [← hnv]; unfold nodeV; rw [if_neg (by simp [eqI]; omega),if_neg (by simp [eqI]; omega),ha,hb,szAt_lt hal2,szAt_lt hbl2]
  have ez:zdiv n.kind (szAt acc n.right)=zdiv n.kind acc[b]:=by rw [hb,szAt_lt hbl2]
  have g:=f_l3One n.kind acc[a] acc[b] ra.1 ra.2 rb.1 rb.2
  unfold one4 at g
  rw [← ev,← ez] at g
  cases hz:zdiv n.kind (szAt acc n.right)
  ·rw [hz,if_neg (by simp)] at g
   cases hbv:badV v
   ·refine ⟨fun s' hs=>?_,fun e he=>by simp [hbv,orB] at he⟩
    simp [hbv,orB] at hs
    subst hs
    refine ⟨?_,nx hbv⟩
    rw [hbv,notB_f] at g
    simp (maxSteps:=1000000) +contextual -dsimp [Tryz.f227,hlt,hi,hc,hw,hm1,ha,hb,hal2,hbl2,e2,e3,g,List.set]
   ·refine ⟨fun s' hs=>by simp [hbv,orB] at hs,fun e he=>⟨_,?_,[(6,⟨1,1,false,[.own 2 (iE acc)]⟩)],rfl⟩⟩
    rw [hbv,notB_t] at g
    simp (maxSteps:=1000000) +contextual -dsimp [Tryz.f227,hlt,hi,hc,hw,hm1,ha,hb,hal2,hbl2,e2,e3,g,List.set]
  ·rw [hz,if_pos rfl] at g
   refine ⟨fun s' hs=>by simp [orB] at hs,fun e he=>⟨_,?_,[(6,⟨1,1,false,[.own 2 (iE acc)]⟩)],rfl⟩⟩
   simp (maxSteps:=1000000) +contextual -dsimp [Tryz.f227,hlt,hi,hc,hw,hm1,ha,hb,hal2,hbl2,e2,e3,g,List.set]
theorem f_l3Eval (l:List Node) (ok:ExprOk l) (vars:List Int) (hv:vars.length=4) (hr:∀ x,x∈vars→badV x=false):fo 227 [A (nS 219 l),A (iS vars)]=some (RE (evalM l vars)):=by
 have hlp:=lp227 l ok vars hv hr
 have hpos:=ok.pos
 have hle:=ok.le
 refine orc_227 (l.length+1) ?_
 unfold evalM
 cases q:foldS (evG vars) 0 [] l with
 | inl e=>
  rw [q] at hlp
  obtain ⟨_,hlp,rt,rfl⟩:=hlp
  simp -dsimp [Tryz.f227,ev4S,iE] at hlp
  simp (maxSteps:=1000000) +contextual -dsimp [Tryz.f227,hlp,RE,List.set]
 | inr acc=>
  rw [q] at hlp
  unfold Goes at hlp
  simp -dsimp [Tryz.f227,ev4S,iE] at hlp
  have hlen:=ev_len q
  simp at hlen
  have hlt:l.length - 1 < acc.length:=by omega
  have hw:IntKind.i64.wrap ((acc.length:Int) - 1)=((l.length - 1:Nat):Int):=by rw [wrapI] <;> omega
  have e1:szAt acc ((l.length:Int) - 1)=acc[l.length - 1]:=by
   have:((l.length:Int) - 1)=((l.length - 1:Nat):Int):=by omega
   rw [this,szAt_lt hlt]
  simp (maxSteps:=1000000) +contextual -dsimp [Tryz.f227,hlp,hw,hlt,e1,RE,List.set]
end Go.TM.Ft
namespace Go.TM.Ft
open Go Go.TM Go.Proofs
set_option maxRecDepth 20000
attribute [local congr] gif_cg
attribute [local simp] footOf noClash clash upsets setsHit setHits layHits layMeets setsMeet evFeet seal4_iE seal4_set
abbrev cO (c:Chart):List T:=[vI c.status,vI c.now,.own 2 (iE c.vars),.own 2 (iE c.acts),.own 2 (iE c.dues)]
abbrev aC (c:Chart):Arg:=⟨.ptr 1 0 [] 0,some ⟨0,1,true,cO c⟩⟩
abbrev aC0 (c:Chart):Arg:=⟨.ptr 0 0 [] 0,some ⟨0,1,true,cO c⟩⟩
abbrev RC (c:Chart):Res:=⟨.tup [],[(1,cO c)],true⟩
abbrev RC0 (c:Chart):Res:=⟨.tup [],[(0,cO c)],true⟩
theorem zeros_fold {α:Type}:∀ (r:List α) (i:Nat) (xs:List Int),i+r.length=xs.length→foldI (fun (i:Nat) (xs:List Int) (_:α)=>xs.set i 0) i xs r=xs.take i++List.replicate r.length 0
 | [],i,xs,h=>by
  simp only [foldI,List.length_nil,List.replicate_zero,List.append_nil]
  rw [List.take_of_length_le (by simp at h; omega)]
 | x::r,i,xs,h=>by
  simp only [foldI]
  rw [zeros_fold r (i+1) (xs.set i 0) (by simp at h ⊢; omega)]
  simp only [List.length_cons] at h
  rw [List.take_succ_eq_append_getElem (by simp; omega),List.take_set_of_le (Nat.le_refl _)]
  simp [List.replicate_succ]
theorem end_fold {α:Type}:∀ (r:List α) (i:Nat) (c:Chart),foldI (fun (i:Nat) (c:Chart) (_:α)=>{ c with acts:=c.acts.set i 0,dues:=c.dues.set i 0 }) i c r=
  { c with acts:=foldI (fun (i:Nat) (xs:List Int) (_:α)=>xs.set i 0) i c.acts r,dues:=foldI (fun (i:Nat) (xs:List Int) (_:α)=>xs.set i 0) i c.dues r }
 | [],i,c=>rfl
 | x::r,i,c=>by simp only [foldI]; rw [end_fold r]
set_option maxHeartbeats 1000000 in
theorem lp226 (c:Chart) (hd:c.dues.length=c.acts.length) (hn:c.acts.length < 2 ^ 62):
  evLoop E (orc E) (226:Nat) (c.acts.length+1) (loopOf Tryz.f226 0) ⟨30,[(0,.ptr 0 0 [] 0),(4,vI (0:Nat))],[(0,⟨0,1,true,cO c⟩)],2⟩=
  some (.exit 0,⟨30,[(0,.ptr 0 0 [] 0),(4,vI c.acts.length),(15,vB false)],[(0,⟨0,1,true,cO { c with acts:=List.replicate c.acts.length 0,dues:=List.replicate c.acts.length 0 }⟩)],2⟩):=by
 have h:=loop_all (f:=226) (id:=0) (code:=loopOf Tryz.f226 0) c.acts (fun _ c'=>c'.acts.length=c.acts.length∧c'.dues.length=c.acts.length)
  (fun i c'=>⟨30,[(0,.ptr 0 0 [] 0),(4,vI i)],[(0,⟨0,1,true,cO c'⟩)],2⟩) (fun (i:Nat) (c:Chart) (_:Int)=>{ c with acts:=c.acts.set i 0,dues:=c.dues.set i 0 })
  (fun c'=>⟨30,[(0,.ptr 0 0 [] 0),(4,vI c.acts.length),(15,vB false)],[(0,⟨0,1,true,cO c'⟩)],2⟩)
 have h2:=h ?_ ?_ c ⟨rfl,hd⟩
 ·rw [end_fold,zeros_fold _ _ _ (by simp),zeros_fold _ _ _ (by simp [hd])] at h2
  simpa using h2
 ·intro k c' hI
  have hlt:=ltN_f c.acts.length
  have e:=hI.1
  simp +contextual -dsimp [Tryz.f226,hlt,e]
 ·intro k i c' hi hI
  have hlt:=ltN_t hi
  have hw:=wrap1 hi hn
  have e:=hI.1
  have e1:i < c'.acts.length:=by omega
  have e2:i < c'.dues.length:=by omega
  refine ⟨?_,by simp; exact hI⟩
  simp (maxSteps:=1000000) +contextual -dsimp [Tryz.f226,hlt,hi,hw,e,e1,e2,List.set]
set_option maxHeartbeats 1000000 in
theorem f_l9End {l:List Step} (c:Chart) (ha:c.acts.length=l.length) (hd:c.dues.length=l.length) (hl:l.length≤1000) (st:Int):fo 226 [aC0 c,A (vI st)]=some (RC0 (stopC l st c)):=by
 have hlp:=lp226 { c with status:=st } (by simp [ha,hd]) (by simp [ha]; omega)
 simp only [ha] at hlp
 refine orc_226 (l.length+1) ?_
 simp -dsimp [Tryz.f226] at hlp
 simp (maxSteps:=1000000) +contextual -dsimp [Tryz.f226,hlp,stopC,List.set]
def runs4 (l:List Step) (a:Nat):Nat→Nat→List Int
 | 0,_=>[]
 | f+1,i=>if andB (ltI (i:Int) l.length) (ltI (dep l a) (dep l i))=true then (i:Int)::runs4 l a f (i+1) else []
set_option maxHeartbeats 2000000 in
theorem lp250 {l:List Step} (w:Wf l) (a:Nat) (ha:a < l.length):∀ (f i:Nat) (acc:List Int),i+f=l.length→acc.length≤i→
  ∃ n:Nat,evLoop E (orc E) (250:Nat) (f+1) (loopOf Tryz.f250 0) ⟨31,[(0,.sl 124 (l.map (sT 219))),(1,vI a),(5,.ref 5 1 [] 0 acc.length),(6,vI i)],[(5,⟨1,1,false,[.own 2 (iE acc)]⟩)],2⟩=
  some (.exit 0,⟨31,[(0,.sl 124 (l.map (sT 219))),(1,vI a),(5,.ref 5 1 [] 0 (acc++runs4 l a f i).length),(6,vI n),(23,vB false)],[(5,⟨1,1,false,[.own 2 (iE (acc++runs4 l a f i))]⟩)],2⟩)
 | 0,i,acc,h,hb=>by
  have hlt:ltI (i:Int) (l.length:Int)=false:=ltI_f (by omega)
  refine ⟨i,evLoop_out ?_ (by simp)⟩
  simp (maxSteps:=1000000) +contextual -dsimp [Tryz.f250,hlt,runs4]
 | f+1,i,acc,h,hb=>by
  have hi:i < l.length:=by omega
  have hl24:=w.ok.le
  have hlt:=ltN_t hi
  have hw:=wrap1 hi (by omega)
  have hm1:acc.length+1≤maxElems:=by unfold maxElems; omega
  have g1:=f_deep4 l hl24 i hi w.ahead
  have g2:=f_deep4 l hl24 a ha w.ahead
  rw [show deep4 l i=dep l i from rfl] at g1
  rw [show deep4 l a=dep l a from rfl] at g2
  cases q:ltI (dep l a) (dep l i)
  ·refine ⟨i,?_⟩
   have e:runs4 l a (f+1) i=[]:=by simp [runs4,q,andB]
   rw [e]
   refine evLoop_out ?_ (by simp)
   simp (maxSteps:=1000000) +contextual -dsimp [Tryz.f250,hlt,g1,g2,q]
  ·have e:runs4 l a (f+1) i=(i:Int)::runs4 l a f (i+1):=by simp [runs4,q,hlt,andB]
   obtain ⟨n,ih⟩:=lp250 w a ha f (i+1) (acc++[(i:Int)]) (by omega) (by simp; omega)
   refine ⟨n,?_⟩
   rw [e,show acc++(i:Int)::runs4 l a f (i+1)=(acc++[(i:Int)])++runs4 l a f (i+1) by simp]
   refine evLoop_next ?_ ih
   simp (maxSteps:=1000000) +contextual -dsimp [Tryz.f250,hlt,hw,hm1,g1,g2,q,List.set]
theorem runs4_eq {l:List Step} (w:Wf l) (a:Nat):∀ (f i:Nat),i+f=l.length→a < i→Und l a (i - 1)→runs4 l a f i=((List.range' i f).filter (undB l a)).map (fun x:Nat=>(x:Int))
 | 0,i,h,_,_=>by simp [runs4]
 | f+1,i,h,hai,hu=>by
  have hi:i < l.length:=by omega
  have hlt:=ltN_t hi
  rw [List.range'_succ]
  cases q:ltI (dep l a) (dep l i)
  ·have e:runs4 l a (f+1) i=[]:=by simp [runs4,q,andB]
   rw [e]
   have hd:¬ dep l a < dep l i:=by simp [ltI] at q; omega
   have hn:¬ Und l a i:=fun h=>hd ((w.piece hi h hai).2)
   have:(i::List.range' (i+1) f).filter (undB l a)=[]:=by
    rw [List.filter_eq_nil_iff]
    intro j hj hu2
    have hj2:i≤j∧j < l.length:=by
     rcases List.mem_cons.1 hj with rfl | hj
     ·exact ⟨Nat.le_refl _,hi⟩
     ·rw [List.mem_range'_1] at hj; omega
    have:=(undB_iff w hj2.2).1 hu2
    exact hn (w.between hj2.2 this (j - i) i (by omega) (by omega))
   rw [this]; rfl
  ·have e:runs4 l a (f+1) i=(i:Int)::runs4 l a f (i+1):=by simp [runs4,q,hlt,andB]
   have hd:dep l a < dep l i:=by simpa [ltI] using q
   have hu2:=w.piece2 hi hai hu hd
   rw [e,runs4_eq w a f (i+1) (by omega) (by omega) (by simpa using hu2),List.filter_cons_of_pos ((undB_iff w hi).2 hu2)]
   rfl
theorem under_same {l:List Step} (w:Wf l) (a:Nat) (ha:a < l.length):(a:Int)::runs4 l a (l.length - (a+1)) (a+1)=undsM l a:=by
 rw [undsM_eq,runs4_eq w a _ _ (by omega) (by omega) (by simpa using Und.self)]
 have e:l.length - a=(l.length - (a+1))+1:=by omega
 rw [e,List.range'_succ,List.filter_cons_of_pos ((undB_iff w ha).2 .self)]
 rfl
theorem f_l4Under {l:List Step} (w:Wf l) (a:Nat) (ha:a < l.length):fo 250 [A (.sl 124 (l.map (sT 219))),A (vI a)]=some ⟨.own 2 (iE (undsM l a)),[],true⟩:=by
 obtain ⟨n,hlp⟩:=lp250 w a ha (l.length - (a+1)) (a+1) [(a:Int)] (by omega) (by simp)
 have hw:=wrap1 ha (by have:=w.ok.le; omega)
 rw [List.singleton_append,under_same w a ha] at hlp
 have hc:cleanEs (iE (undsM l a))=true:=by generalize undsM l a=k; induction k <;> simp_all [cleanEs,cleanL,clean]
 refine orc_250 (l.length - (a+1)+1) ?_
 simp -dsimp [Tryz.f250,iE] at hlp
 simp (maxSteps:=1000000) +contextual -dsimp [Tryz.f250,hw,hlp,hc,List.set]
set_option maxHeartbeats 1000000 in
theorem lp197 (c:Chart) (ks:List Int) (hk:ks.length < 2 ^ 62) (hin:∀ k,k∈ks→∃ x:Nat,k=x∧x < c.acts.length∧x < c.dues.length):
  evLoop E (orc E) (197:Nat) (ks.length+1) (loopOf Tryz.f197 0) ⟨35,[(1,.ptr 1 0 [] 0),(6,iS ks),(7,vI (0:Nat))],[(1,⟨0,1,true,cO c⟩)],2⟩=
  some (.exit 0,⟨35,[(1,.ptr 1 0 [] 0),(6,iS ks),(7,vI ks.length),(14,vB false)],[(1,⟨0,1,true,cO (idleC ks c)⟩)],2⟩):=by
 have h:=loop_all (f:=197) (id:=0) (code:=loopOf Tryz.f197 0) ks (fun _ c'=>c'.acts.length=c.acts.length∧c'.dues.length=c.dues.length)
  (fun i c'=>⟨35,[(1,.ptr 1 0 [] 0),(6,iS ks),(7,vI i)],[(1,⟨0,1,true,cO c'⟩)],2⟩) (fun (_:Nat) (c:Chart) (k:Int)=>{ c with acts:=c.acts.set k.toNat 0,dues:=c.dues.set k.toNat 0 })
  (fun c'=>⟨35,[(1,.ptr 1 0 [] 0),(6,iS ks),(7,vI ks.length),(14,vB false)],[(1,⟨0,1,true,cO c'⟩)],2⟩)
 have h2:=h ?_ ?_ c ⟨rfl,rfl⟩
 ·rw [idle_fold] at h2; exact h2
 ·intro k c' _
  have hlt:=ltN_f ks.length
  simp +contextual -dsimp [Tryz.f197,hlt]
 ·intro k i c' hi hI
  obtain ⟨x,hx,h1,h2⟩:=hin ks[i] (List.getElem_mem hi)
  have hlt:=ltN_t hi
  have hw:=wrap1 hi hk
  have e1:x < c'.acts.length:=by omega
  have e2:x < c'.dues.length:=by omega
  refine ⟨?_,by simp; exact hI⟩
  simp (maxSteps:=1000000) +contextual -dsimp [Tryz.f197,hlt,hi,hw,hx,e1,e2,List.set]
set_option maxHeartbeats 1000000 in
theorem f_l9Idle {l:List Step} (w:Wf l) (c:Chart) (ha:c.acts.length=l.length) (hd:c.dues.length=l.length) (k:Nat) (hk:k < l.length):
  fo 197 [A (.sl 124 (l.map (sT 219))),aC c,A (vI k)]=some (RC (idleC (undsM l k) c)):=by
 have g:=f_l4Under w k hk
 have hle:=undsM_le l k
 have hl:=w.ok.le
 have hlp:=lp197 c (undsM l k) (by omega) (fun k hk=>by
  obtain ⟨x,h1,h2,h3,h4⟩:=undsM_mem hk
  exact ⟨x,h1,by omega,by omega⟩)
 refine orc_197 ((undsM l k).length+1) ?_
 simp -dsimp [Tryz.f197] at hlp
 simp (maxSteps:=1000000) +contextual -dsimp [Tryz.f197,g,hlp]
end Go.TM.Ft
