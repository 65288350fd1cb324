/- What functions of the program come to, by the machine. -/
import Derived.Test.YtlmiemdojgahaaaGreatPL9
import Derived.Test.YtlmiemdojgahaaaGreatPL7
import Derived.Test.YtlmiemdojgahaaaGreatPL8
set_option linter.unusedSimpArgs false
set_option linter.unusedVariables false
namespace Go.TM.Ft
open Go Go.TM Go.Proofs
set_option maxRecDepth 20000
attribute [local congr] gif_cg
attribute [local simp] footOf noClash clash upsets setsHit setHits layHits layMeets setsMeet evFeet seal4_iE seal4_set
section
variable {l:List Step}
theorem choose_some (w:Wf l) (vars:List Int) {k:Nat} (hk:k < l.length) (h3:kindOf l k=3):chooseM l vars (kidsM k 0 l)≠-2:=by
 have hn:=w.kidsN hk
 rw [h3] at hn
 have hlen:2≤(kidsM k 0 l).length:=by
  simp [kidB,eqI,inR,andB,leI] at hn; omega
 have hlast:∀ x,x∈kidsM k 0 l→x=szAt (kidsM k 0 l) ((kidsM k 0 l).length - 1)→ltI 0 (condOf l x.toNat).length=false:=by
  intro x hx he
  obtain ⟨a,ha,hal,hka,hpa⟩:=w.kid hx
  have hc:=w.ok.cond a hal
  unfold condFaultM at hc
  have hcode:condCode l a=0:=by
   split at hc
   ·exact hc
   ·rename_i c
    simp [orB,notB,eqI] at c
    exact c.1
  have h2:=(first2_zero hcode).2
  have hw:wantsM l a=false:=by
   unfold wantsM
   rw [hpa,if_neg (by simp [orB,notB,eqI,h3]; omega),← he,ha]
   simp [notB,eqI]
  rw [hw] at h2
  have hh:hasCond l a=false:=by
   cases q:hasCond l a
   ·rfl
   ·rw [q] at h2; simp [eqB,notB] at h2
  rw [ha,Int.toNat_natCast]
  have e:ltI 0 (condOf l a).length=hasCond l a:=by simp [hasCond,condOf,hal]
  rw [e]; exact hh
 have hpos:∀ x,x∈kidsM k 0 l→0≤x:=fun x hx=>by obtain ⟨a,h1,_⟩:=w.kid hx; omega
 have key:∀ (r:List Int),r≠[]→(∀ x,x∈r→0≤x)→ltI 0 (condOf l (szAt r (r.length - 1)).toNat).length=false→chooseM l vars r≠-2:=by
  intro r
  induction r with
  | nil=>intro h; exact absurd rfl h
  | cons x r ih=>
   intro _ hp hc
   unfold chooseM
   have hx:=hp x (by simp)
   cases r with
   | nil=>
    have:szAt [x] (([x]:List Int).length - 1)=x:=rfl
    rw [this] at hc
    rw [hc,if_neg (by simp)]; omega
   | cons y r=>
    have e:szAt (x::y::r) ((x::y::r).length - 1)=szAt (y::r) ((y::r).length - 1):=by
     have e1:(((x::y::r).length:Int) - 1)=((r.length+1:Nat):Int):=by simp
     have e2:(((y::r).length:Int) - 1)=((r.length:Nat):Int):=by simp
     rw [e1,e2,szAt_lt (by simp),szAt_lt (by simp)]
     rfl
    rw [e] at hc
    have ih:=ih (by simp) (fun z hz=>hp z (by simp [hz])) hc
    unfold pickV
    split
    ·split
     ·simp
     ·split
      ·omega
      ·exact ih
    ·omega
 have e1:(((kidsM k 0 l).length:Int) - 1)=(((kidsM k 0 l).length - 1:Nat):Int):=by omega
 refine key _ (fun h=>by rw [h] at hlen; simp at hlen) hpos ?_
 refine hlast _ ?_ rfl
 rw [e1]; exact szAt_mem (by omega)
def GoOk4 (l:List Step) (go:Bool→Nat→Chart→Option Chart):Prop:=
 ∀ b k c c',Inv l c→k < l.length→go b k c=some c'→fo (if b=true then 161 else 165) [A (.sl 124 (l.map (sT 219))),aC c,A (vI k)]=some (RC c')∧Inv l c'
theorem GoOk4.ent {go} (g:GoOk4 l go) {k:Nat} {c c':Chart} (h:Inv l c) (hk:k < l.length) (hc:go true k c=some c'):fo 161 [A (.sl 124 (l.map (sT 219))),aC c,A (vI k)]=some (RC c')∧Inv l c':=g true k c c' h hk hc
theorem GoOk4.ovr {go} (g:GoOk4 l go) {k:Nat} {c c':Chart} (h:Inv l c) (hk:k < l.length) (hc:go false k c=some c'):fo 165 [A (.sl 124 (l.map (sT 219))),aC c,A (vI k)]=some (RC c')∧Inv l c':=g false k c c' h hk hc
set_option maxHeartbeats 1000000 in
theorem lp161 (w:Wf l) {go} (g:GoOk4 l go) (all:List Int) (hall:all.length≤24) (hks:∀ k,k∈all→∃ x:Nat,k=x∧x < l.length):∀ (rest:List Int) (i:Nat) (c c':Chart),all.drop i=rest→Inv l c→goAll go rest c=some c'→
  evLoop E (orc E) (161:Nat) (rest.length+1) (loopOf Tryz.f161 0) ⟨143,[(0,.sl 124 (l.map (sT 219))),(1,.ptr 1 0 [] 0),(6,iS all),(7,vI i)],[(1,⟨0,1,true,cO c⟩)],2⟩=
  some (.exit 1,⟨143,[(0,.sl 124 (l.map (sT 219))),(1,.ptr 1 0 [] 0),(6,iS all),(7,vI (i+rest.length:Nat)),(43,vB false)],[(1,⟨0,1,true,cO c'⟩)],2⟩)∧Inv l c'
 | [],i,c,c',h,hI,hg=>by
  have hge:all.length≤i:=by simpa using h
  have hlt:ltI (i:Int) (all.length:Int)=false:=ltI_f (by omega)
  simp only [goAll,Option.some.injEq] at hg; subst hg
  refine ⟨?_,hI⟩
  rw [loop_eq]
  simp +contextual -dsimp [Tryz.f161,hlt]
 | k::rest,i,c,c',h,hI,hg=>by
  obtain ⟨hi,hc,hr⟩:=drop_cons h
  obtain ⟨x,hx,hxl⟩:=hks k (by rw [← hc]; exact List.getElem_mem _)
  have hlt:=ltN_t hi
  have hw:=wrap1 hi (by omega)
  have he:i+1+rest.length=i+(rest.length+1):=by omega
  unfold goAll at hg
  rw [hx,Int.toNat_natCast] at hg
  cases q:go true x c with
  | none=>rw [q] at hg; simp at hg
  | some c1=>
   rw [q] at hg
   obtain ⟨g1,g2⟩:=g.ent hI hxl q
   obtain ⟨ih,hI'⟩:=lp161 w g all hall hks rest (i+1) c1 c' hr g2 hg
   rw [he] at ih
   refine ⟨evLoop_next ?_ (by simpa only [List.length_cons] using ih),hI'⟩
   rw [hx] at hc
   simp (maxSteps:=1000000) +contextual -dsimp [Tryz.f161,hlt,hi,hc,hw,g1]
set_option maxHeartbeats 8000000 in
theorem f_l9Enter (w:Wf l) {go} (g:GoOk4 l go) (k:Nat) (hk:k < l.length) (c c':Chart) (hI:Inv l c)
  (h:(if eqI c.status 1=true then entC go l k { c with acts:=c.acts.set k 1 } else some c)=some c'):fo 161 [A (.sl 124 (l.map (sT 219))),aC c,A (vI k)]=some (RC c')∧Inv l c':=by
 have hl24:=w.ok.le
 cases q0:eqI c.status 1
 ·rw [q0,if_neg (by simp)] at h
  simp only [Option.some.injEq] at h; subst h
  refine ⟨?_,hI⟩
  refine orc_161 1 ?_
  simp (maxSteps:=1000000) +contextual -dsimp [Tryz.f161,q0]
 rw [q0,if_pos rfl] at h
 have gk:=f_l4Kids l (by omega) k
 rw [← proc_kids w.ok] at gk
 have hka:k < c.acts.length:=by rw [hI.acts]; exact hk
 have hkd:k < c.dues.length:=by rw [hI.dues]; exact hk
 have hkk:(l[k]).kind=kindOf l k:=(kindOf_at hk).symm
 have hkg:(l[k]).arg=argOf l k:=by simp [argOf,hk]
 have hkx:(l[k]).expr=exprOf l k:=by simp [exprOf,hk]
 have hn:=w.kidsN hk
 have h24:=w.kids24 k
 have hch:=choose_some w c.vars hk
 obtain ⟨c1,hc1⟩:∃ c1:Chart,c1={ c with acts:=c.acts.set k 1 }:=⟨_,rfl⟩
 have hI1:Inv l c1:=by rw [hc1]; exact hI.act k 1
 have e1:c1.status=c.status:=by rw [hc1]
 have e2:c1.now=c.now:=by rw [hc1]
 have e3:c1.vars=c.vars:=by rw [hc1]
 have e4:c1.acts=c.acts.set k 1:=by rw [hc1]
 have e5:c1.dues=c.dues:=by rw [hc1]
 have gcx:=f_l9Choose w c1 hI1.vars hI1.rng k
 rw [← hc1] at h
 generalize hks:kidsM k 0 l=ks at *
 have hkm:∀ x,x∈ks→∃ a:Nat,x=a∧a < l.length:=fun x hx=>by
  rw [← hks] at hx
  obtain ⟨a,h1,h2,_⟩:=w.kid hx
  exact ⟨a,h1,h2⟩
 unfold entC at h
 rw [hks] at h
 cases q1:eqI (kindOf l k) 1
 ·cases q4:eqI (kindOf l k) 4
  ·cases q3:eqI (kindOf l k) 3
   ·cases q8:eqI (kindOf l k) 8
    ·cases q6:eqI (kindOf l k) 6
     ·cases q7:eqI (kindOf l k) 7
      ·simp only [q1,q4,q3,q8,q6,q7,Bool.false_eq_true,if_false,Option.some.injEq] at h
       subst h
       refine ⟨?_,hI1⟩
       refine orc_161 1 ?_
       simp (maxSteps:=1000000) +contextual -dsimp [Tryz.f161,q0,hk,hka,gk,hkk,q1,q4,q3,q8,q6,q7,e1,e2,e3,e4,e5,List.set]
      ·simp only [q1,q4,q3,q8,q6,q7,Bool.false_eq_true,if_false,if_true] at h
       have h7:(l[k]).kind=7:=by rw [hkk]; simpa [eqI] using q7
       obtain ⟨okx,a0,a3⟩:=w.expr hk h7
       rw [hkx] at okx
       rw [hkg] at a0 a3
       obtain ⟨m,hm⟩:=Int.eq_ofNat_of_zero_le a0
       have hml:m < c.vars.length:=by rw [hI.vars]; omega
       have ge:=f_l3Eval (exprOf l k) okx c.vars hI.vars hI.rng
       rw [e3] at h
       cases ev:evalM (exprOf l k) c.vars with
       | none=>
        rw [ev] at h ge
        simp only [RE] at ge
        simp only [Option.some.injEq] at h
        have gs:=f_l9End (l:=l) c1 hI1.acts hI1.dues (by omega) 3
        subst h
        refine ⟨?_,hI1.stop 3⟩
        rw [hc1] at gs ⊢
        simp only [aC,aC0,cO,RC,RC0,stopC,iE,List.map_set] at gs ⊢
        refine orc_161 1 ?_
        simp (maxSteps:=1000000) +contextual -dsimp [Tryz.f161,q0,hk,hka,gk,hkk,hkx,q1,q4,q3,q8,q6,q7,ge,gs,List.set]
       | some v=>
        rw [ev] at h ge
        simp only [RE] at ge
        simp only [hm,Int.toNat_natCast] at h
        obtain ⟨g1,g2⟩:=g.ovr (hI1.var m (eval_good okx ev)) hk (by rw [e3]; exact h)
        rw [hc1] at g1
        simp only [aC,cO,RC,iE,List.map_set] at g1
        refine ⟨?_,g2⟩
        refine orc_161 1 ?_
        simp (maxSteps:=1000000) +contextual -dsimp [Tryz.f161,q0,hk,hka,gk,hkk,hkx,hkg,hm,hml,q1,q4,q3,q8,q6,q7,ge,g1,List.set]
     ·simp only [q1,q4,q3,q8,q6,Bool.false_eq_true,if_false,if_true,Option.some.injEq] at h
      obtain ⟨a1,a2⟩:=w.arg hk (.inl (by simpa [eqI] using q6))
      have hw:IntKind.i64.wrap (c.now+argOf l k)=c.now+argOf l k:=by have:=hI.now0; have:=hI.now1; rw [wrapI] <;> omega
      subst h
      refine ⟨?_,by simpa only [e5,e2] using hI1.due k (c.now+argOf l k)⟩
      refine orc_161 1 ?_
      simp (maxSteps:=1000000) +contextual -dsimp [Tryz.f161,q0,hk,hka,hkd,gk,hkk,hkg,hw,q1,q4,q3,q8,q6,e1,e2,e3,e4,e5,List.set]
    ·simp only [q1,q4,q3,q8,Bool.false_eq_true,if_false,if_true] at h
     have h8:kindOf l k=8:=by simpa [eqI] using q8
     obtain ⟨a1,a2⟩:=w.arg hk (.inr h8)
     have hw:IntKind.i64.wrap (c.now+argOf l k)=c.now+argOf l k:=by have:=hI.now0; have:=hI.now1; rw [wrapI] <;> omega
     rw [h8] at hn
     obtain ⟨x,r,rfl⟩:∃ x r,ks=x::r:=by
      cases ks with
      | nil=>simp [kidB,eqI,inR,andB,leI] at hn
      | cons x r=>exact ⟨x,r,rfl⟩
     obtain ⟨y,rfl,hyl⟩:=hkm x (by simp)
     have es:szAt ((y:Int)::r) 0=y:=rfl
     rw [es,Int.toNat_natCast] at h
     obtain ⟨g1,g2⟩:=g.ent (hI1.due k (c1.now+argOf l k)) hyl h
     rw [hc1] at g1
     simp only [aC,cO,RC,iE,List.map_set] at g1
     refine ⟨?_,g2⟩
     refine orc_161 1 ?_
     simp (maxSteps:=1000000) +contextual -dsimp [Tryz.f161,q0,hk,hka,hkd,gk,hkk,hkg,hw,q1,q4,q3,q8,g1,List.set]
   ·simp only [q1,q4,q3,Bool.false_eq_true,if_false,if_true] at h
    have hcm:chooseM l c1.vars ks=-1∨chooseM l c1.vars ks=-2∨chooseM l c1.vars ks∈ks:=by
     clear h hn h24 hks gk hch gcx
     induction ks with
     | nil=>exact .inr (.inl rfl)
     | cons x r ih=>
      have ih:=ih (fun y hy=>hkm y (by simp [hy]))
      unfold chooseM pickV
      split
      ·split
       ·exact .inl rfl
       ·split
        ·exact .inr (.inr (by simp))
        ·rcases ih with h | h | h
         ·exact .inl h
         ·exact .inr (.inl h)
         ·exact .inr (.inr (by simp [h]))
      ·exact .inr (.inr (by simp))
    have hch:=hch (by simpa [eqI] using q3)
    rw [e3] at hcm gcx h
    rcases hcm with q | q | q
    ·have q':choose4 (chooseM l c.vars ks)=-1:=by rw [q]; rfl
     rw [q] at h
     simp [eqI] at h
     subst h
     have gs:=f_l9End (l:=l) c1 hI1.acts hI1.dues (by omega) 3
     rw [q'] at gcx
     refine ⟨?_,hI1.stop 3⟩
     rw [hc1] at gs gcx ⊢
     simp only [aC,aC0,cO,cT,iS,RC,RC0,stopC,iE,List.map_set] at gs gcx ⊢
     have l1:ltI (-1) 0=true:=rfl
     refine orc_161 1 ?_
     simp (maxSteps:=1000000) +contextual -dsimp [Tryz.f161,q0,hk,hka,gk,hkk,q1,q4,q3,gcx,gs,l1,List.set]
    ·exact absurd q hch
    ·obtain ⟨y,hy,hyl⟩:=hkm _ q
     have q':choose4 (chooseM l c.vars ks)=y:=by rw [hy]; simp [choose4,eqI] <;> omega
     rw [hy] at h
     rw [if_neg (by simp [eqI] <;> omega),if_neg (by simp [eqI] <;> omega),Int.toNat_natCast] at h
     obtain ⟨g1,g2⟩:=g.ent hI1 hyl h
     rw [q'] at gcx
     refine ⟨?_,g2⟩
     rw [hc1] at g1 gcx
     simp only [aC,cO,cT,iS,RC,iE,List.map_set] at g1 gcx
     have l1:ltI (y:Int) 0=false:=ltI_f (by omega)
     refine orc_161 1 ?_
     simp (maxSteps:=1000000) +contextual -dsimp [Tryz.f161,q0,hk,hka,gk,hkk,q1,q4,q3,gcx,g1,l1,List.set]
  ·simp only [q1,q4,Bool.false_eq_true,if_false,if_true] at h
   obtain ⟨g1,g2⟩:=lp161 w g ks h24 hkm ks 0 c1 c' rfl hI1 h
   refine ⟨?_,g2⟩
   rw [hc1] at g1
   simp only [cO,iE,List.map_set] at g1
   simp -dsimp [Tryz.f161] at g1
   refine orc_161 (ks.length+1) ?_
   simp (maxSteps:=1000000) +contextual -dsimp [Tryz.f161,q0,hk,hka,gk,hkk,q1,q4,g1,List.set]
 ·simp only [q1,if_true] at h
  have h1:kindOf l k=1:=by simpa [eqI] using q1
  rw [h1] at hn
  obtain ⟨x,r,rfl⟩:∃ x r,ks=x::r:=by
   cases ks with
   | nil=>simp [kidB,eqI,inR,andB,leI] at hn
   | cons x r=>exact ⟨x,r,rfl⟩
  obtain ⟨y,rfl,hyl⟩:=hkm x (by simp)
  have es:szAt ((y:Int)::r) 0=y:=rfl
  rw [es,Int.toNat_natCast] at h
  obtain ⟨g1,g2⟩:=g.ent hI1 hyl h
  rw [hc1] at g1
  simp only [aC,cO,RC,iE,List.map_set] at g1
  refine ⟨?_,g2⟩
  refine orc_161 1 ?_
  simp (maxSteps:=1000000) +contextual -dsimp [Tryz.f161,q0,hk,hka,gk,hkk,q1,g1,List.set]
end
end Go.TM.Ft
namespace Go.TM.Ft
open Go Go.TM Go.Proofs
set_option maxRecDepth 20000
attribute [local congr] gif_cg
attribute [local simp] footOf noClash clash upsets setsHit setHits layHits layMeets setsMeet evFeet seal4_iE seal4_set
section
variable {l:List Step}
set_option maxHeartbeats 8000000 in
theorem f_l9Over (w : Wf l) {go} (g : GoOk4 l go) (k : Nat) (hk : k < l.length) (c c' : Chart) (hI : Inv l c)
    (h : ovrC go l k (idleC (undsM l k) c) = some c') : fo 165 [A (.sl 124 (l.map (sT 219))), aC c, A (vI k)] = some (RC c') ∧ Inv l c' := by
  have hl24 := w.ok.le
  have gi := f_l9Idle w c hI.acts hI.dues k hk
  obtain ⟨c1, hc1⟩ : ∃ c1 : Chart, c1 = idleC (undsM l k) c := ⟨_, rfl⟩
  have hI1 : Inv l c1 := by rw [hc1]; exact hI.idle _
  rw [← hc1] at gi h
  unfold ovrC at h
  cases q0 : eqI (k : Int) 0
  · rw [q0, if_neg (by simp)] at h
    have hk0 : 0 < k := by rcases Nat.eq_zero_or_pos k with e | e; · subst e; simp [eqI] at q0
                           · exact e
    obtain ⟨p, hp, hpk⟩ := w.par hk hk0
    have hpl : p < l.length := by omega
    rw [hp, Int.toNat_natCast] at h
    have hp' : (l[k]).parent = (p : Int) := by rw [← parOf_at hk]; exact hp
    have hp0 : ltI (p : Int) 0 = false := ltI_f (by omega)
    have hkp : (l[p]).kind = kindOf l p := (kindOf_at hpl).symm
    have ga := f_l9After w k p hk hp
    have hka : k < c1.acts.length := by rw [hI1.acts]; exact hk
    have hmem := w.kid_of hk hp
    rw [aft_idx hmem] at ga
    unfold ovrP at h
    have hal : ∀ c2 : Chart, Inv l c2 → fo 230 [A (.sl 124 (l.map (sT 219))), A (.ipt (cT c2)), A (vI p)] = some (R (vB (notB (hasB (notOver c2.acts) (kidsM p 0 l))))) := fun c2 h2 => f_l9All w c2 h2.acts p
    generalize hks : kidsM p 0 l = ks at *
    have hkm : ∀ x, x ∈ ks → ∃ a : Nat, x = a ∧ a < l.length := fun x hx => by
      rw [← hks] at hx
      obtain ⟨a, h1, h2, _⟩ := w.kid hx
      exact ⟨a, h1, h2⟩
    cases q1 : eqI (kindOf l p) 1
    · cases q4 : eqI (kindOf l p) 4
      · simp only [q1, q4, Bool.false_eq_true, if_false] at h
        obtain ⟨g1, g2⟩ := g.ovr hI1 hpl h
        refine ⟨?_, g2⟩
        refine orc_165 1 ?_
        simp (maxSteps := 1000000) +contextual -dsimp [Tryz.f165, gi, hk, hp', hp0, hpl, hkp, q1, q4, g1, List.set]
      · simp only [q1, q4, Bool.false_eq_true, if_false, if_true] at h
        obtain ⟨c2, hc2⟩ : ∃ c2 : Chart, c2 = { c1 with acts := c1.acts.set k 2 } := ⟨_, rfl⟩
        have hI2 : Inv l c2 := by rw [hc2]; exact hI1.act k 2
        have ea : c2.acts = c1.acts.set k 2 := by rw [hc2]
        rw [← hc2, ← ea] at h
        have gn := hal c2 hI2
        cases q5 : hasB (notOver c2.acts) ks
        · rw [q5] at h gn
          rw [notB_f] at gn
          simp only [Bool.false_eq_true, if_false] at h
          obtain ⟨g1, g2⟩ := g.ovr hI2 hpl h
          refine ⟨?_, g2⟩
          rw [hc2] at gn g1
          simp only [aC, cO, cT, iS, RC, iE, List.map_set] at gn g1
          refine orc_165 1 ?_
          simp (maxSteps := 1000000) +contextual -dsimp [Tryz.f165, gi, hk, hka, hp', hp0, hpl, hkp, q1, q4, gn, g1, List.set]
        · rw [q5] at h gn
          rw [notB_t] at gn
          simp only [if_true, Option.some.injEq] at h
          subst h
          refine ⟨?_, hI2⟩
          rw [hc2] at gn ⊢
          simp only [aC, cO, cT, iS, RC, iE, List.map_set] at gn ⊢
          refine orc_165 1 ?_
          simp (maxSteps := 1000000) +contextual -dsimp [Tryz.f165, gi, hk, hka, hp', hp0, hpl, hkp, q1, q4, gn, List.set]
    · simp only [q1, if_true] at h
      obtain ⟨j, e1, e2, e3⟩ := idxI_found hmem
      rw [e1] at h ga
      obtain ⟨j1, hj1⟩ : ∃ j1, j1 = j + 1 := ⟨_, rfl⟩
      have hj2 : (j : Int) + 1 = (j1 : Int) := by omega
      rw [hj2] at h ga
      cases q2 : ltI (j1 : Int) ks.length
      · rw [q2, if_neg (by simp)] at h ga
        have l1 : leI 0 (-1) = false := rfl
        obtain ⟨g1, g2⟩ := g.ovr hI1 hpl h
        refine ⟨?_, g2⟩
        refine orc_165 1 ?_
        simp (maxSteps := 1000000) +contextual -dsimp [Tryz.f165, gi, hk, hp', hp0, hpl, hkp, q1, ga, l1, g1, List.set]
      · rw [q2, if_pos rfl] at h ga
        have hj : j1 < ks.length := by simp [ltI] at q2; omega
        obtain ⟨y, hy, hyl⟩ := hkm _ (szAt_mem hj)
        rw [hy] at ga h
        rw [Int.toNat_natCast] at h
        have l1 : leI 0 (y : Int) = true := leI_t (by omega)
        obtain ⟨g1, g2⟩ := g.ent hI1 hyl h
        refine ⟨?_, g2⟩
        refine orc_165 1 ?_
        simp (maxSteps := 1000000) +contextual -dsimp [Tryz.f165, gi, hk, hp', hp0, hpl, hkp, q1, ga, l1, g1, List.set]
  · rw [q0, if_pos rfl] at h
    simp only [Option.some.injEq] at h
    subst h
    have hk0 : k = 0 := by have : (k : Int) = 0 := by simpa [eqI] using q0
                           omega
    subst hk0
    have hp' : (l[0]).parent = -1 := w.ok.par0 hk
    have l1 : ltI (-1) 0 = true := rfl
    have gs := f_l9End (l := l) c1 hI1.acts hI1.dues (by omega) 2
    have e0 : ((0 : Nat) : Int) = 0 := rfl
    rw [e0] at gi ⊢
    refine ⟨?_, hI1.stop 2⟩
    refine orc_165 1 ?_
    simp (maxSteps := 1000000) +contextual -dsimp [Tryz.f165, gi, hk, hp', l1, gs, List.set]
theorem goC_ok4 (w:Wf l):∀ f,GoOk4 l (goC l f)
 | 0,_,_,_,_,_,_,h=>by simp [goC] at h
 | f+1,true,k,c,c',hI,hk,h=>by
  unfold goC at h
  exact f_l9Enter w (goC_ok4 w f) k hk c c' hI h
 | f+1,false,k,c,c',hI,hk,h=>by
  unfold goC at h
  exact f_l9Over w (goC_ok4 w f) k hk c c' hI h
end
end Go.TM.Ft
namespace Go.TM.Ft
open Go Go.TM Go.Proofs
set_option maxRecDepth 20000
section
variable {l:List Step}
theorem runs4_le (a:Nat):∀ (f i:Nat),(runs4 l a f i).length≤f
 | 0,_=>by simp [runs4]
 | f+1,i=>by
  unfold runs4
  split
  ·have:=runs4_le a f (i+1); simp; omega
  ·simp
theorem runs4_und (w:Wf l) (a:Nat):∀ (f i:Nat),i+f=l.length→a < i→Und l a (i - 1)→∀ j,i≤j→j < i+(runs4 l a f i).length→Und l a j
 | 0,i,_,_,_,j,h1,h2=>by simp [runs4] at h2; omega
 | f+1,i,h,hai,hu,j,h1,h2=>by
  unfold runs4 at h2
  split at h2
  ·rename_i c
   have hi:i < l.length:=by omega
   have hd:dep l a < dep l i:=by simp [andB,ltI] at c; exact c.2
   have hui:=w.piece2 hi hai hu hd
   rcases Nat.lt_or_ge i j with h' | h'
   ·simp only [List.length_cons] at h2
    exact runs4_und w a f (i+1) (by omega) (by omega) (by simpa using hui) j h' (by omega)
   ·have:j=i:=by omega
    rw [this]; exact hui
  ·simp at h2; omega
theorem runs4_max (w:Wf l) (a:Nat):∀ (f i m:Nat),i+f=l.length→a < i→m < l.length→(∀ j,i≤j→j≤m→Und l a j)→m+1≤i+(runs4 l a f i).length
 | 0,i,m,h,_,hm,_=>by omega
 | f+1,i,m,h,hai,hm,hu=>by
  rcases Nat.lt_or_ge m i with h' | h'
  ·omega
  ·have hi:i < l.length:=by omega
   have hui:=hu i (Nat.le_refl _) h'
   have hd:=(w.piece hi hui hai).2
   have hc:andB (ltI (i:Int) l.length) (ltI (dep l a) (dep l i))=true:=by simp [andB,ltI]; exact ⟨by omega,hd⟩
   unfold runs4
   rw [if_pos hc]
   have:=runs4_max w a f (i+1) m (by omega) (by omega) hm (fun j h1 h2=>hu j (by omega) h2)
   simp; omega
def en (l:List Step) (k:Nat):Nat:=k+(runs4 l k (l.length - (k+1)) (k+1)).length
theorem en_ge (k:Nat):k≤en l k:=by unfold en; omega
theorem en_lt {k:Nat} (hk:k < l.length):en l k < l.length:=by
 have:=runs4_le (l:=l) k (l.length - (k+1)) (k+1)
 unfold en; omega
theorem en_und (w:Wf l) {k j:Nat} (hk:k < l.length) (h1:k≤j) (h2:j≤en l k):Und l k j:=by
 rcases Nat.lt_or_ge k j with h | h
 ·exact runs4_und w k (l.length - (k+1)) (k+1) (by omega) (by omega) (by simpa using Und.self) j (by omega) (by unfold en at h2; omega)
 ·have:j=k:=by omega
  rw [this]; exact .self
theorem en_max (w:Wf l) {k j:Nat} (hk:k < l.length) (hj:j < l.length) (hu:Und l k j):j≤en l k:=by
 rcases Nat.lt_or_ge k j with h | h
 ·have:=runs4_max w k (l.length - (k+1)) (k+1) j (by omega) (by omega) hj (fun i h1 h2=>w.between hj hu (j - i) i (by omega) (by omega))
  unfold en; omega
 ·unfold en; omega
theorem en_up (w:Wf l) {k p:Nat} (hk:k < l.length) (hp:parOf l k=(p:Int)) (hpk:p < k):en l k≤en l p:=
 en_max w (by omega) (en_lt hk) ((Und.up hk hp hpk .self).trans (en_und w hk (en_ge k) (Nat.le_refl _)))
theorem en_next (w:Wf l) {k s p:Nat} (hk:k < l.length) (hs:s < l.length) (hks:k < s) (hp:parOf l s=(p:Int)) (hpk:p < k):en l k < s:=by
 rcases Nat.lt_or_ge (en l k) s with h | h
 ·exact h
 ·have hu:=en_und w hk (Nat.le_of_lt hks) h
  have:=(hu.down (by omega) hp).le
  omega
theorem en_leaf (w:Wf l) {k:Nat} (hk:k < l.length) (h:kidsM k 0 l=[]):en l k=k:=by
 rcases Nat.lt_or_ge k (en l k) with h1 | h1
 ·exfalso
  have hu:=en_und w hk (Nat.le_succ k) h1
  have hk1:k+1 < l.length:=by have:=en_lt hk; omega
  obtain ⟨q,h2,h3⟩:=w.par hk1 (by omega)
  have:=(hu.down (by omega) h2).le
  have e:q=k:=by omega
  rw [e] at h2
  have:=w.kid_of hk1 h2
  rw [h] at this; simp at this
 ·have:=en_ge (l:=l) k; omega
theorem kids4_sorted {p:Int}:∀ (r:List Step) (i:Nat),(kids4M p i r).Pairwise (· < ·)∧∀ x,x∈kids4M p i r→(i:Int)≤x
 | [],i=>by simp [kids4M]
 | s::r,i=>by
  obtain ⟨h1,h2⟩:=kids4_sorted (p:=p) r (i+1)
  unfold kids4M
  split
  ·refine ⟨List.pairwise_cons.2 ⟨fun x hx=>by have:=h2 x hx; omega,h1⟩,fun x hx=>?_⟩
   rcases List.mem_cons.1 hx with rfl | hx
   ·omega
   ·have:=h2 x hx; omega
  ·exact ⟨h1,fun x hx=>by have:=h2 x hx; omega⟩
def mu (l:List Step):Bool→Nat→Nat
 | true,k=>(l.length - k)*26+25
 | false,k=>(l.length - en l k)*26+k
theorem goAll_tot {go:Bool→Nat→Chart→Option Chart}:∀ (ks:List Int) (c:Chart),(∀ x,x∈ks→∀ c,∃ c',go true x.toNat c=some c')→∃ c',goAll go ks c=some c'
 | [],c,_=>⟨c,rfl⟩
 | k::r,c,h=>by
  obtain ⟨c1,h1⟩:=h k (by simp) c
  obtain ⟨c2,h2⟩:=goAll_tot r c1 (fun x hx=>h x (by simp [hx]))
  exact ⟨c2,by simp only [goAll,h1,h2]⟩
theorem choose_mem (l:List Step) (vars:List Int):∀ (ks:List Int),chooseM l vars ks=-1∨chooseM l vars ks=-2∨chooseM l vars ks∈ks
 | []=>.inr (.inl rfl)
 | x::r=>by
  have ih:=choose_mem l vars r
  unfold chooseM pickV
  split
  ·split
   ·exact .inl rfl
   ·split
    ·exact .inr (.inr (by simp))
    ·rcases ih with h | h | h
     ·exact .inl h
     ·exact .inr (.inl h)
     ·exact .inr (.inr (by simp [h]))
  ·exact .inr (.inr (by simp))
theorem Wf.kid0 (w:Wf l) {k:Nat} (hk:k < l.length) (h:kindOf l k=1∨kindOf l k=8):∃ a:Nat,szAt (kidsM k 0 l) 0=a∧a < l.length∧k < a:=by
 have hn:=w.kidsN hk
 have hpos:0 < (kidsM k 0 l).length:=by rcases h with h | h <;> rw [h] at hn <;> simp [kidB,eqI,inR,andB,leI] at hn <;> omega
 have hm:=szAt_mem hpos
 obtain ⟨a,h1,h2,h3,_⟩:=w.kid hm
 exact ⟨a,h1,h2,h3⟩
theorem entC_tot (w:Wf l) (f k:Nat) (hk:k < l.length) (hm:mu l true k < f+1) (ent:∀ (a:Nat) (c:Chart),a < l.length→k < a→∃ c',goC l f true a c=some c') (c:Chart)
  (ovr:∀ c,mu l false k < f→∃ c',goC l f false k c=some c'):∃ c',entC (goC l f) l k c=some c':=by
  unfold entC
  split
  ·rename_i q
   obtain ⟨a,h1,h2,h3⟩:=w.kid0 hk (.inl (by simpa [eqI] using q))
   rw [h1,Int.toNat_natCast]
   exact ent a _ h2 h3
  split
  ·refine goAll_tot _ _ fun x hx c=>?_
   obtain ⟨a,h1,h2,h3,_⟩:=w.kid hx
   rw [h1,Int.toNat_natCast]
   exact ent a _ h2 h3
  split
  ·split
   ·exact ⟨_,rfl⟩
   ·rename_i n1
    split
    ·exact ⟨_,rfl⟩
    ·rename_i n2
     rcases choose_mem l _ (kidsM k 0 l) with h | h | h
     ·exact absurd (by rw [h]; rfl) n1
     ·exact absurd (by rw [h]; rfl) n2
     ·obtain ⟨a,h1,h2,h3,_⟩:=w.kid h
      rw [h1,Int.toNat_natCast]
      exact ent a _ h2 h3
  split
  ·rename_i q
   obtain ⟨a,h1,h2,h3⟩:=w.kid0 hk (.inr (by simpa [eqI] using q))
   rw [h1,Int.toNat_natCast]
   exact ent a _ h2 h3
  split
  ·exact ⟨_,rfl⟩
  split
  ·rename_i q
   have h7:kindOf l k=7:=by simpa [eqI] using q
   have hn:=w.kidsN hk
   rw [h7] at hn
   have h0:kidsM k 0 l=[]:=by
    have e:kidB 7=(0,0):=rfl
    rw [e] at hn
    simp only [inR,andB,leI,Bool.and_eq_true,decide_eq_true_eq] at hn
    exact List.length_eq_zero_iff.1 (by omega)
   split
   ·exact ⟨_,rfl⟩
   ·refine ovr _ ?_
    simp only [mu,en_leaf w hk h0] at hm ⊢
    have:=w.ok.le
    omega
  ·exact ⟨_,rfl⟩
theorem goC_tot (w:Wf l):∀ (f:Nat) (b:Bool) (k:Nat) (c:Chart),k < l.length→mu l b k < f→∃ c',goC l f b k c=some c'
 | 0,_,_,_,_,h=>by omega
 | f+1,true,k,c,hk,hm=>by
  have ent:∀ (a:Nat) (c:Chart),a < l.length→k < a→∃ c',goC l f true a c=some c':=fun a c ha hka=>goC_tot w f true a c ha (by simp only [mu] at hm ⊢; omega)
  unfold goC
  by_cases q0:eqI c.status 1=true
  ·rw [if_pos q0]
   exact entC_tot w f k hk hm ent _ (fun c=>goC_tot w f false k c hk)
  ·rw [if_neg q0]; exact ⟨c,rfl⟩
 | f+1,false,k,c,hk,hm=>by
  unfold goC ovrC
  split
  ·exact ⟨_,rfl⟩
  rename_i q0
  have hk0:0 < k:=by
   rcases Nat.eq_zero_or_pos k with e | e
   ·subst e; exact absurd rfl q0
   ·exact e
  obtain ⟨p,hp,hpk⟩:=w.par hk hk0
  have hpl:p < l.length:=by omega
  rw [hp,Int.toNat_natCast]
  have hen:=en_up w hk hp hpk
  have hel:=en_lt hpl
  have ovr:∀ c,∃ c',goC l f false p c=some c':=fun c=>goC_tot w f false p c hpl (by simp only [mu] at hm ⊢; omega)
  unfold ovrP
  split
  ·split
   ·rename_i q2
    have hmem:=w.kid_of hk hp
    obtain ⟨j,e1,e2,e3⟩:=idxI_found hmem
    have ej:(j:Int)+1=((j+1:Nat):Int):=by omega
    rw [e1,ej] at q2 ⊢
    have hj:j+1 < (kidsM p 0 l).length:=by simp [ltI] at q2; omega
    obtain ⟨s,h1,h2,h3,h4⟩:=w.kid (szAt_mem hj)
    rw [h1,Int.toNat_natCast]
    have hks:k < s:=by
     have hs:=(kids4_sorted (p:=(p:Int)) l 0).1
     rw [← proc_kids w.ok] at hs
     have:=List.pairwise_iff_getElem.1 hs j (j+1) e2 hj (by omega)
     rw [← szAt_lt e2,← szAt_lt hj,e3,h1] at this
     omega
    have hns:=en_next w hk h2 hks h4 hpk
    refine goC_tot w f true s _ h2 ?_
    have:=en_lt hk
    simp only [mu] at hm ⊢
    omega
   ·exact ovr _
  split
  ·split
   ·exact ⟨_,rfl⟩
   ·exact ovr _
  ·exact ovr _
theorem mu_lt (w:Wf l) (b:Bool) (k:Nat) (hk:k < l.length):mu l b k < 700:=by
 have:=w.ok.le
 cases b <;> simp only [mu] <;> omega
def goX (l:List Step) (b:Bool) (k:Nat) (c:Chart):Chart:=(goC l 700 b k c).getD c
theorem goX_eq (w:Wf l) (b:Bool) (k:Nat) (c:Chart) (hk:k < l.length):goC l 700 b k c=some (goX l b k c):=by
 obtain ⟨c',h⟩:=goC_tot w 700 b k c hk (mu_lt w b k hk)
 unfold goX
 rw [h]; rfl
theorem f_goEnter (w:Wf l) {c:Chart} (hI:Inv l c) (k:Nat) (hk:k < l.length):fo 171 [aB l c,A (vI k)]=some (RB l (goX l true k c))∧Inv l (goX l true k c):=(goC_ok w 700).ent hI hk (goX_eq w true k c hk)
theorem f_goOver (w:Wf l) {c:Chart} (hI:Inv l c) (k:Nat) (hk:k < l.length):fo 193 [aB l c,A (vI k)]=some (RB l (goX l false k c))∧Inv l (goX l false k c):=(goC_ok w 700).ovr hI hk (goX_eq w false k c hk)
theorem f_goEnter4 (w:Wf l) {c:Chart} (hI:Inv l c) (k:Nat) (hk:k < l.length):fo 161 [A (.sl 124 (l.map (sT 219))),aC c,A (vI k)]=some (RC (goX l true k c)):=((goC_ok4 w 700).ent hI hk (goX_eq w true k c hk)).1
theorem f_goOver4 (w:Wf l) {c:Chart} (hI:Inv l c) (k:Nat) (hk:k < l.length):fo 165 [A (.sl 124 (l.map (sT 219))),aC c,A (vI k)]=some (RC (goX l false k c)):=((goC_ok4 w 700).ovr hI hk (goX_eq w false k c hk)).1
end
end Go.TM.Ft
namespace Go.TM.Ft
open Go Go.TM Go.Proofs
set_option maxRecDepth 20000
attribute [local congr] gif_cg
attribute [local simp] footOf noClash clash upsets setsHit setHits layHits layMeets setsMeet evFeet seal4_iE seal4_set
theorem clean_iE (l:List Int):cleanEs (iE l)=true:=by induction l <;> simp_all [cleanEs,cleanL,clean]
attribute [local simp] clean_iE
theorem one_iE (l:List Int):((iE l).all fun c=>c.all one1)=true:=by
 rw [List.all_eq_true]; intro c hc; obtain ⟨x,_,rfl⟩:=List.mem_map.1 hc; rfl
theorem elems_le {n:Nat} (h:n≤1048576):n≤maxElems:=by unfold maxElems; omega
theorem f_Clone (l:List Int) (hl:l.length≤1048576):fo 170 [A (iS l)]=some ⟨.own 2 (iE l),[],true⟩:=by
 refine orc_ext (g:=cloneT 2) rfl ?_
 have h1:=one_iE l
 have h2:=elems_le hl
 simp only [cloneT]
 rw [if_pos ⟨trivial,h1,by simpa using h2⟩,clean_iE]
theorem f_l8Ints (l:List Int) (hl:l.length≤1048576):fo 160 [A (iS l)]=some ⟨.own 2 (iE l),[],true⟩:=by
 have h1:=one_iE l
 have h2:=elems_le hl
 have hm:(iE l).length≤maxElems:=by simpa using h2
 refine orc_160 1 ?_
 simp (maxSteps:=1000000) +contextual -dsimp [Tryz.f160,h1,h2,hm,List.set]
structure Few (c:Chart):Prop where
 vars:c.vars.length≤1048576
 acts:c.acts.length≤1048576
 dues:c.dues.length≤1048576
theorem Few.fit {c:Chart} (h:Few c):FitC c:=⟨by have:=h.vars; omega,by have:=h.acts; omega,by have:=h.dues; omega⟩
theorem f_cloneC (c:Chart) (h:Few c):fo 188 [A (.agg (cT c))]=some ⟨.agg (cO c),[],true⟩:=by
 have g1:=f_Clone c.vars h.vars
 have g2:=f_Clone c.acts h.acts
 have g3:=f_Clone c.dues h.dues
 refine orc_188 1 ?_
 simp (maxSteps:=1000000) +contextual -dsimp [Tryz.f188,g1,g2,g3,List.set]
theorem f_l9Copy (c:Chart) (h:Few c):fo 164 [A (.agg (cT c))]=some ⟨.agg (cO c),[],true⟩:=by
 have g1:=f_l8Ints c.vars h.vars
 have g2:=f_l8Ints c.acts h.acts
 have g3:=f_l8Ints c.dues h.dues
 refine orc_164 1 ?_
 simp (maxSteps:=1000000) +contextual -dsimp [Tryz.f164,g1,g2,g3,List.set]
def noC:Chart:=⟨0,0,[],[],[]⟩
abbrev RR (r:Int × Chart):Res:=⟨.agg (vI r.1::cO r.2),[],true⟩
theorem f_l9Bad (k:Int):fo 158 [A (vI k)]=some (RR (k,noC)):=by
 refine orc_158 1 ?_
 simp (maxSteps:=1000000) +contextual -dsimp [Tryz.f158,noC,List.set]
theorem varsM_zero {v:List Int} (h:varsM v=0):v.length=4∧∀ x,x∈v→badV x=false:=by
 unfold varsM at h
 obtain ⟨h1,h2⟩:=first2_zero h
 have h1:=ci_zero (by omega) h1
 have h2:=ci_zero (by omega) h2
 rw [hasB_any] at h2
 refine ⟨by simp [notB,eqI] at h1; omega,fun x hx=>?_⟩
 rw [List.any_eq_false] at h2
 have:=h2 x hx
 cases q:badV x
 ·rfl
 ·exact absurd q this
theorem inv_of {l:List Step} {c:Chart} (h:chartM l c=0):Inv l c∧Wf l∧1≤c.status∧c.status≤3:=by
 obtain ⟨z1,z2,z3,z4,z5,z6⟩:=chartA_zero (chartM_zero h)
 obtain ⟨v1,v2⟩:=varsM_zero z4
 exact ⟨⟨v1,z5,z6,z3.1,z3.2,v2⟩,wf_of z1,z2.1,z2.2⟩
theorem Inv.few {l:List Step} {c:Chart} (h:Inv l c) (w:Wf l):Few c:=by
 have:=w.ok.le
 exact ⟨by rw [h.vars]; omega,by rw [h.acts]; omega,by rw [h.dues]; omega⟩
theorem f_first3 (a b c:Int):fo 78 [A (.sl 2 [[vI a],[vI b],[vI c]])]=some (R (vI (first2 a (first2 b c)))):=by
 have h0:ltI 0 3=true:=rfl
 have h1:ltI 1 3=true:=rfl
 have h2:ltI 2 3=true:=rfl
 have h3:ltI 3 3=false:=rfl
 have w1:IntKind.i64.wrap 1=1:=rfl
 have w2:IntKind.i64.wrap 2=2:=rfl
 have w3:IntKind.i64.wrap 3=3:=rfl
 refine orc_78 5 ?_
 cases ha:eqI a 0
 ·simp -dsimp [Tryz.f78,loop_eq,h0,ha,first2]
 ·cases hb:eqI b 0
  ·simp -dsimp [Tryz.f78,loop_eq,h0,h1,w1,ha,hb,first2]
  ·cases hc:eqI c 0
   ·simp -dsimp [Tryz.f78,loop_eq,h0,h1,h2,w1,w2,ha,hb,hc,first2]
   ·simp -dsimp [Tryz.f78,loop_eq,h0,h1,h2,h3,w1,w2,w3,ha,hb,hc,first2]
    simp [eqI] at hc; exact hc.symm
def startA (l:List Step) (vars:List Int) (now:Int):Int:=first2 (procM l) (first2 (varsM vars) (ci (notB (inR now 0 1000000)) 3))
def newC (l:List Step) (vars:List Int) (now:Int):Chart:=⟨1,now,vars,List.replicate l.length 0,List.replicate l.length 0⟩
def startM (l:List Step) (vars:List Int) (now:Int):Int × Chart:=if notB (eqI (startA l vars now) 0)=true then (startA l vars now,noC) else (0,goX l true 0 (newC l vars now))
theorem startA_zero {l:List Step} {vars:List Int} {now:Int} (h:startA l vars now=0):Inv l (newC l vars now)∧Wf l:=by
 unfold startA at h
 obtain ⟨h1,h2⟩:=first2_zero h
 obtain ⟨h2,h3⟩:=first2_zero h2
 have h3:=ci_zero (by omega) h3
 obtain ⟨v1,v2⟩:=varsM_zero h2
 have h3:0≤now∧now≤1000000:=by
  have:inR now 0 1000000=true:=by cases e:inR now 0 1000000 <;> simp [notB,e] at h3 ⊢
  simpa [inR,andB,leI] using this
 exact ⟨⟨v1,by simp [newC],by simp [newC],h3.1,h3.2,v2⟩,wf_of h1⟩
set_option maxHeartbeats 2000000 in
theorem f_StartChart (l:List Step) (hl:l.length < 2 ^ 62) (hf:∀ s,s∈l→FitS s) (vars:List Int) (hv:vars.length < 2 ^ 62) (now:Int):
  fo 77 [A (.sl 124 (l.map (sT 219))),A (iS vars),A (vI now)]=some (RR (startM l vars now)):=by
 have g1:=f_ProcFault l hl hf
 have g2:=f_VarsFault vars hv
 have g3:=f_first3 (procM l) (varsM vars) (ci (notB (inR now 0 1000000)) 3)
 rw [show first2 (procM l) (first2 (varsM vars) (ci (notB (inR now 0 1000000)) 3))=startA l vars now from rfl] at g3
 unfold startM
 cases q:eqI (startA l vars now) 0
 ·refine orc_77 1 ?_
  simp (maxSteps:=1000000) +contextual -dsimp [Tryz.f77,g1,g2,g3,f_isTime,f_ci,q,noC,List.set]
 ·have q0:startA l vars now=0:=by simpa [eqI] using q
  obtain ⟨hI,w⟩:=startA_zero q0
  have hp:=w.ok.pos
  have hle:=w.ok.le
  have g4:=f_Clone vars (by have:=hI.vars; simp [newC] at this; omega)
  have hm:((l.length:Nat):Int)≤(maxElems:Nat):=by unfold maxElems; omega
  obtain ⟨g5,_⟩:=f_goEnter w hI 0 (by omega)
  rw [q0] at g3
  have e0:((0:Nat):Int)=0:=rfl
  have q1:eqI 0 0=true:=rfl
  rw [e0] at g5
  generalize goX l true 0 (newC l vars now)=c' at *
  simp only [newC,aB,bO,iE,List.map_replicate] at g5
  refine orc_77 1 ?_
  simp (maxSteps:=1000000) +contextual -dsimp [Tryz.f77,g1,g2,g3,g4,g5,f_isTime,f_ci,q1,hm,List.set]
set_option maxHeartbeats 2000000 in
theorem f4_StartChart (l:List Step) (hl:l.length < 2 ^ 62) (hf:FitX l) (vars:List Int) (now:Int):
  fo 70 [A (.sl 124 (l.map (sT 219))),A (iS vars),A (vI now)]=some (RR (startM l vars now)):=by
 have g1:=f_l4Fault l hl hf
 have g2:=f_Vars4 vars
 rw [fault_same] at g1
 rw [vars_same] at g2
 unfold startM
 cases q:eqI (procM l) 0
 ·have e:startA l vars now=procM l:=by simp [startA,first2,q]
  rw [e,q]
  have gb:=f_l9Bad (procM l)
  refine orc_70 1 ?_
  simp (maxSteps:=1000000) +contextual -dsimp [Tryz.f70,g1,gb,q,List.set]
 ·have e0:procM l=0:=by simpa [eqI] using q
  cases q2:eqI (varsM vars) 0
  ·have e:startA l vars now=varsM vars:=by simp [startA,first2,q,q2]
   rw [e,q2]
   have gb:=f_l9Bad (varsM vars)
   refine orc_70 1 ?_
   simp (maxSteps:=1000000) +contextual -dsimp [Tryz.f70,g1,g2,gb,q,q2,List.set]
  ·cases q3:inR now 0 1000000
   ·have e:startA l vars now=3:=by simp [startA,first2,q,q2,q3,ci,notB]
    have q30:eqI 3 0=false:=rfl
    rw [e,q30]
    have gb:=f_l9Bad 3
    refine orc_70 1 ?_
    simp (maxSteps:=1000000) +contextual -dsimp [Tryz.f70,g1,g2,gb,f_l8Time,q,q2,q3,List.set]
   ·have e:startA l vars now=0:=by simp [startA,first2,q,q2,q3,ci,notB]
    obtain ⟨hI,w⟩:=startA_zero e
    have hp:=w.ok.pos
    have hle:=w.ok.le
    have g4:=f_l8Ints vars (by have:=hI.vars; simp [newC] at this; omega)
    have hm:((l.length:Nat):Int)≤(maxElems:Nat):=by unfold maxElems; omega
    have g5:=f_goEnter4 w hI 0 (by omega)
    have z0:((0:Nat):Int)=0:=rfl
    have q1:eqI 0 0=true:=rfl
    rw [z0] at g5
    rw [e,q1]
    generalize goX l true 0 (newC l vars now)=c' at *
    simp only [newC,aC,cO,iE,List.map_replicate] at g5
    refine orc_70 1 ?_
    simp (maxSteps:=1000000) +contextual -dsimp [Tryz.f70,g1,g2,g4,g5,f_l8Time,q,q2,q3,hm,List.set]
end Go.TM.Ft
namespace Go.TM.Ft
open Go Go.TM Go.Proofs
set_option maxRecDepth 20000
attribute [local congr] gif_cg
attribute [local simp] footOf noClash clash upsets setsHit setHits layHits layMeets setsMeet evFeet seal4_iE seal4_set clean_iE
def doneM (l:List Step) (c:Chart) (step:Int) (vars:List Int):Int × Chart:=
 if notB (eqI (first2 (chartM l c) (varsM vars)) 0)=true then (first2 (chartM l c) (varsM vars),noC)
 else if notB (openM l c.acts step)=true then (4,noC) else (0,goX l false step.toNat { c with vars:=vars })
theorem openM_true {l:List Step} {acts:List Int} {step:Int} (h:openM l acts step=true):∃ k:Nat,step=k∧k < l.length∧kindOf l k=2∧szAt acts k=1:=by
 simp only [openM,andB,inR,leI,eqI,Bool.and_eq_true,decide_eq_true_eq] at h
 obtain ⟨⟨⟨h1,h2⟩,h3⟩,h4⟩:=h
 refine ⟨step.toNat,by omega,by omega,?_⟩
 rw [show ((step.toNat:Nat):Int)=step by omega]
 exact ⟨by simpa using h3,by simpa using h4⟩
set_option maxHeartbeats 2000000 in
theorem f_DoneChart (l:List Step) (hl:l.length < 2 ^ 62) (hf:∀ s,s∈l→FitS s) (c:Chart) (hc:FitC c) (step:Int) (vars:List Int) (hv:vars.length < 2 ^ 62):
  fo 128 [A (.sl 124 (l.map (sT 219))),A (.agg (cT c)),A (vI step),A (iS vars)]=some (RR (doneM l c step vars)):=by
 have g1:=f_ChartFault l hl hf c hc
 have g2:=f_VarsFault vars hv
 have g3:=f_first2 (chartM l c) (varsM vars)
 unfold doneM
 cases q:eqI (first2 (chartM l c) (varsM vars)) 0
 ·refine orc_128 1 ?_
  simp (maxSteps:=1000000) +contextual -dsimp [Tryz.f128,g1,g2,g3,q,noC,List.set]
 ·have q0:first2 (chartM l c) (varsM vars)=0:=by simpa [eqI] using q
  obtain ⟨z1,z2⟩:=first2_zero q0
  obtain ⟨hI,w,_,_⟩:=inv_of z1
  obtain ⟨v1,v2⟩:=varsM_zero z2
  have g4:=f_isOnTask l hl c hI.acts step
  rw [q0] at g3
  have q1:eqI 0 0=true:=rfl
  cases q2:openM l c.acts step
  ·rw [q2] at g4
   refine orc_128 1 ?_
   simp (maxSteps:=1000000) +contextual -dsimp [Tryz.f128,g1,g2,g3,g4,q1,noC,List.set]
  ·rw [q2] at g4
   obtain ⟨k,rfl,hk,_⟩:=openM_true q2
   have g5:=f_cloneC c (hI.few w)
   have g6:=f_Clone vars (by omega)
   obtain ⟨g7,_⟩:=f_goOver w (c:={ c with vars:=vars }) ⟨v1,hI.acts,hI.dues,hI.now0,hI.now1,v2⟩ k hk
   rw [Int.toNat_natCast]
   generalize goX l false k { c with vars:=vars }=c' at *
   refine orc_128 1 ?_
   simp (maxSteps:=1000000) +contextual -dsimp [Tryz.f128,g1,g2,g3,g4,g5,g6,g7,q1,List.set]
set_option maxHeartbeats 2000000 in
theorem f4_DoneChart (l:List Step) (hl:l.length < 2 ^ 62) (hf:FitX l) (c:Chart) (step:Int) (vars:List Int):
  fo 72 [A (.sl 124 (l.map (sT 219))),A (.agg (cT c)),A (vI step),A (iS vars)]=some (RR (doneM l c step vars)):=by
 have g1:=f_l9Fault l hl hf c
 have g2:=f_Vars4 vars
 rw [chart_same] at g1
 rw [vars_same] at g2
 unfold doneM
 cases q:eqI (chartM l c) 0
 ·have e:first2 (chartM l c) (varsM vars)=chartM l c:=by simp [first2,q]
  have gb:=f_l9Bad (chartM l c)
  rw [e,q]
  refine orc_72 1 ?_
  simp (maxSteps:=1000000) +contextual -dsimp [Tryz.f72,g1,gb,q,List.set]
 ·have q0:chartM l c=0:=by simpa [eqI] using q
  have q1:eqI 0 0=true:=rfl
  obtain ⟨hI,w,_,_⟩:=inv_of q0
  have e:first2 (chartM l c) (varsM vars)=varsM vars:=by simp [first2,q]
  rw [e]
  cases q2:eqI (varsM vars) 0
  ·have gb:=f_l9Bad (varsM vars)
   refine orc_72 1 ?_
   simp (maxSteps:=1000000) +contextual -dsimp [Tryz.f72,g1,g2,gb,q,q2,List.set]
  ·have z2:varsM vars=0:=by simpa [eqI] using q2
   obtain ⟨v1,v2⟩:=varsM_zero z2
   have hle:=w.ok.le
   have hwr:IntKind.i64.wrap ((l.length:Int) - 1)=(l.length:Int) - 1:=by rw [wrapI] <;> omega
   cases q3:openM l c.acts step
   ·have gb:=f_l9Bad 4
    cases r1:inR step 0 ((l.length:Int) - 1)
    ·refine orc_72 1 ?_
     simp (maxSteps:=1000000) +contextual -dsimp [Tryz.f72,g1,g2,gb,q,q2,f_l1In,hwr,r1,List.set]
    ·obtain ⟨k,rfl,hk⟩:∃ k:Nat,step=k∧k < l.length:=by
      simp only [andB,inR,leI,Bool.and_eq_true,decide_eq_true_eq] at r1
      exact ⟨step.toNat,by omega,by omega⟩
     have hka:k < c.acts.length:=by rw [hI.acts]; exact hk
     cases r2:eqI (kindOf l k) 2
     ·have r2':eqI l[k].kind 2=false:=by rw [← kindOf_at hk]; exact r2
      refine orc_72 1 ?_
      simp (maxSteps:=1000000) +contextual -dsimp [Tryz.f72,g1,g2,gb,q,q2,f_l1In,hwr,r1,r2',hk,List.set]
     ·have r2':eqI l[k].kind 2=true:=by rw [← kindOf_at hk]; exact r2
      have r3:eqI c.acts[k] 1=false:=by
       have:openM l c.acts k=eqI (szAt c.acts k) 1:=by simp [openM,r1,r2,andB]
       rw [this,szAt_lt hka] at q3; exact q3
      refine orc_72 1 ?_
      simp (maxSteps:=1000000) +contextual -dsimp [Tryz.f72,g1,g2,gb,q,q2,f_l1In,hwr,r1,r2',r3,hk,hka,List.set]
   ·obtain ⟨k,rfl,hk,e2,e3⟩:=openM_true q3
    have hka:k < c.acts.length:=by rw [hI.acts]; exact hk
    have r1:inR (k:Int) 0 ((l.length:Int) - 1)=true:=by simp only [andB,inR,leI,Bool.and_eq_true,decide_eq_true_eq]; omega
    have r2':eqI l[k].kind 2=true:=by rw [← kindOf_at hk,e2]; rfl
    have r3:eqI c.acts[k] 1=true:=by rw [← szAt_lt hka,e3]; rfl
    have g5:=f_l9Copy c (hI.few w)
    have g6:=f_l8Ints vars (by omega)
    have g7:=f_goOver4 w (c:={ c with vars:=vars }) ⟨v1,hI.acts,hI.dues,hI.now0,hI.now1,v2⟩ k hk
    rw [Int.toNat_natCast]
    generalize goX l false k { c with vars:=vars }=c' at *
    refine orc_72 1 ?_
    simp (maxSteps:=1000000) +contextual -dsimp [Tryz.f72,g1,g2,g5,g6,g7,q,q2,f_l1In,hwr,r1,r2',r3,hk,hka,List.set]
end Go.TM.Ft
