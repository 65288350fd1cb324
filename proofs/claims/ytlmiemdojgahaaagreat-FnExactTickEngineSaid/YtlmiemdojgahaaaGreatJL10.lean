/- What functions of the program come to, by the machine. -/
import Derived.Test.YtlmiemdojgahaaaGreatJL9
import Derived.Test.YtlmiemdojgahaaaGreatJL7
import Derived.Test.YtlmiemdojgahaaaGreatJL8
set_option linter.unusedSimpArgs false
set_option linter.unusedVariables false
set_option maxHeartbeats 8000000
namespace Go.TM.Ft
open Go Go.TM Go.Proofs Go.Proofs.Tryz
set_option maxRecDepth 20000
attribute [local congr] K9
attribute [local simp] J8 K0 J0 J9 H3 J6 H4 G4 H5 G1 a1r a6b
section
variable {l:List Step}
theorem f7w (w:Wf l) (vars:List Int) {k:Nat} (hk:k < l.length) (h3:A8 l k=3):D3 l vars (A7 k 0 l)≠-2:=by
 have hn:=w.kidsN hk
 rw [h3] at hn
 have hlen:2≤(A7 k 0 l).length:=by
  simp [M7,eqI,inR,A2,leI] at hn; omega
 have hlast:∀ x,x∈A7 k 0 l→x=A3 (A7 k 0 l) ((A7 k 0 l).length - 1)→ltI 0 (condOf l x.toNat).length=false:=by
  intro x hx he
  obtain ⟨a,ha,hal,hka,hpa⟩:=w.kid hx
  have hc:=w.ok.cond a hal
  unfold condFaultM at hc
  have hcode:b0a l a=0:=by
   split at hc
   ·exact hc
   ·rename_i c
    simp [orB,A0,eqI] at c
    exact c.1
  have h2:=(a0a hcode).2
  have hw:a7o l a=false:=by
   unfold a7o
   rw [hpa,if_neg (by simp [orB,A0,eqI,h3]; omega),← he,ha]
   simp [A0,eqI]
  rw [hw] at h2
  have hh:a4f l a=false:=by
   cases q:a4f l a
   ·rfl
   ·rw [q] at h2; simp [eqB,A0] at h2
  rw [ha,Int.toNat_natCast]
  have e:ltI 0 (condOf l a).length=a4f l a:=by simp [a4f,condOf,hal]
  rw [e]; exact hh
 have hpos:∀ x,x∈A7 k 0 l→0≤x:=fun x hx=>by obtain ⟨a,h1,_⟩:=w.kid hx; omega
 have key:∀ (r:List Int),r≠[]→(∀ x,x∈r→0≤x)→ltI 0 (condOf l (A3 r (r.length - 1)).toNat).length=false→D3 l vars r≠-2:=by
  intro r
  induction r with
  | nil=>intro h; exact absurd rfl h
  | cons x r ih=>
   intro _ hp hc
   unfold D3
   have hx:=hp x (by simp)
   cases r with
   | nil=>
    have:A3 [x] (([x]:List Int).length - 1)=x:=rfl
    rw [this] at hc
    rw [hc,if_neg (by simp)]; omega
   | cons y r=>
    have e:A3 (x::y::r) ((x::y::r).length - 1)=A3 (y::r) ((y::r).length - 1):=by
     have e1:(((x::y::r).length:Int) - 1)=((r.length+1:Nat):Int):=by simp
     have e2:(((y::r).length:Int) - 1)=((r.length:Nat):Int):=by simp
     rw [e1,e2,K4 (by simp),K4 (by simp)]
     rfl
    rw [e] at hc
    have ih:=ih (by simp) (fun z hz=>hp z (by simp [hz])) hc
    unfold a5p
    split
    ·split
     ·simp
     ·split
      ·omega
      ·exact ih
    ·omega
 have e1:(((A7 k 0 l).length:Int) - 1)=(((A7 k 0 l).length - 1:Nat):Int):=by omega
 refine key _ (fun h=>by rw [h] at hlen; simp at hlen) hpos ?_
 refine hlast _ ?_ rfl
 rw [e1]; exact a7b (by omega)
def GoOk4 (l:List Step) (go:Bool→Nat→Chart→Option Chart):Prop:=
 ∀ b k c c',Inv l c→k < l.length→go b k c=some c'→fo (if b=true then 161 else 165) [A (.sl 124 (l.map (sT 219))),aC c,A (vI k)]=some (RC c')∧Inv l c'
theorem GoOk4.ent {go} (g:GoOk4 l go) {k:Nat} {c c':Chart} (h:Inv l c) (hk:k < l.length) (hc:go true k c=some c'):fo 161 [A (.sl 124 (l.map (sT 219))),aC c,A (vI k)]=some (RC c')∧Inv l c':=g true k c c' h hk hc
theorem GoOk4.ovr {go} (g:GoOk4 l go) {k:Nat} {c c':Chart} (h:Inv l c) (hk:k < l.length) (hc:go false k c=some c'):fo 165 [A (.sl 124 (l.map (sT 219))),aC c,A (vI k)]=some (RC c')∧Inv l c':=g false k c c' h hk hc
theorem f4v (w:Wf l) {go} (g:GoOk4 l go) (all:List Int) (hall:all.length≤24) (hks:∀ k,k∈all→∃ x:Nat,k=x∧x < l.length):∀ (rest:List Int) (i:Nat) (c c':Chart),all.drop i=rest→Inv l c→a3v go rest c=some c'→
  A5 E (orc E) (161:Nat) (rest.length+1) (B3 f161 0) ⟨143,[(0,.sl 124 (l.map (sT 219))),(1,.ptr 1 0 [] 0),(6,iS all),(7,vI i)],[(1,⟨0,0,true,cO c⟩)],2⟩=
  some (.exit 1,⟨143,[(0,.sl 124 (l.map (sT 219))),(1,.ptr 1 0 [] 0),(6,iS all),(7,vI (i+rest.length:Nat)),(43,vB false)],[(1,⟨0,0,true,cO c'⟩)],2⟩)∧Inv l c'
 | [],i,c,c',h,hI,hg=>by
  have hge:all.length≤i:=by simpa using h
  have hlt:ltI (i:Int) (all.length:Int)=false:=B7 (by omega)
  simp only [a3v,Option.some.injEq] at hg; subst hg
  refine ⟨?_,hI⟩
  rw [C2]
  simp +contextual -dsimp [f161,hlt]
 | k::rest,i,c,c',h,hI,hg=>by
  obtain ⟨hi,hc,hr⟩:=C8 h
  obtain ⟨x,hx,hxl⟩:=hks k (by rw [← hc]; exact List.getElem_mem _)
  have hlt:=O4 hi
  have hw:=N6 hi (by omega)
  have he:i+1+rest.length=i+(rest.length+1):=by omega
  unfold a3v at hg
  rw [hx,Int.toNat_natCast] at hg
  cases q:go true x c with
  | none=>rw [q] at hg; simp at hg
  | some c1=>
   rw [q] at hg
   obtain ⟨g1,g2⟩:=g.ent hI hxl q
   obtain ⟨ih,hI'⟩:=f4v w g all hall hks rest (i+1) c1 c' hr g2 hg
   rw [he] at ih
   refine ⟨C0 ?_ (by simpa only [List.length_cons] using ih),hI'⟩
   rw [hx] at hc
   simp (maxSteps:=1000000) +contextual -dsimp [f161,hlt,hi,hc,hw,g1]
theorem g0x (w:Wf l) {go} (g:GoOk4 l go) (k:Nat) (hk:k < l.length) (c c':Chart) (hI:Inv l c)
  (h:(if eqI c.status 1=true then a8c go l k { c with acts:=c.acts.set k 1 } else some c)=some c'):fo 161 [A (.sl 124 (l.map (sT 219))),aC c,A (vI k)]=some (RC c')∧Inv l c':=by
 have hl24:=w.ok.le
 cases q0:eqI c.status 1
 ·rw [q0,if_neg (by simp)] at h
  simp only [Option.some.injEq] at h; subst h
  refine ⟨?_,hI⟩
  refine a6i 1 ?_
  simp (maxSteps:=1000000) +contextual -dsimp [f161,q0]
 rw [q0,if_pos rfl] at h
 have gk:=a8n l (by omega) k
 rw [← a4d w.ok] at gk
 have hka:k < c.acts.length:=by rw [hI.acts]; exact hk
 have hkd:k < c.dues.length:=by rw [hI.dues]; exact hk
 have hkk:(l[k]).kind=A8 l k:=(a8k hk).symm
 have hkg:(l[k]).arg=N1 l k:=by simp [N1,hk]
 have hkx:(l[k]).expr=a5l l k:=by simp [a5l,hk]
 have hn:=w.kidsN hk
 have h24:=w.kids24 k
 have hch:=f7w w c.vars hk
 obtain ⟨c1,hc1⟩:∃ c1:Chart,c1={ c with acts:=c.acts.set k 1 }:=⟨_,rfl⟩
 have hI1:Inv l c1:=by rw [hc1]; exact hI.act k 1
 have e1:c1.status=c.status:=by rw [hc1]
 have e2:c1.now=c.now:=by rw [hc1]
 have e3:c1.vars=c.vars:=by rw [hc1]
 have e4:c1.acts=c.acts.set k 1:=by rw [hc1]
 have e5:c1.dues=c.dues:=by rw [hc1]
 have gcx:=f9x w c1 hI1.vars hI1.rng k
 rw [← hc1] at h
 generalize hks:A7 k 0 l=ks at *
 have hkm:∀ x,x∈ks→∃ a:Nat,x=a∧a < l.length:=fun x hx=>by
  rw [← hks] at hx
  obtain ⟨a,h1,h2,_⟩:=w.kid hx
  exact ⟨a,h1,h2⟩
 unfold a8c at h
 rw [hks] at h
 cases q1:eqI (A8 l k) 1
 ·cases q4:eqI (A8 l k) 4
  ·cases q3:eqI (A8 l k) 3
   ·cases q8:eqI (A8 l k) 8
    ·cases q6:eqI (A8 l k) 6
     ·cases q7:eqI (A8 l k) 7
      ·simp only [q1,q4,q3,q8,q6,q7,Bool.false_eq_true,if_false,Option.some.injEq] at h
       subst h
       refine ⟨?_,hI1⟩
       refine a6i 1 ?_
       simp (maxSteps:=1000000) +contextual -dsimp [f161,q0,hk,hka,gk,hkk,q1,q4,q3,q8,q6,q7,e1,e2,e3,e4,e5,List.set]
      ·simp only [q1,q4,q3,q8,q6,q7,Bool.false_eq_true,if_false,if_true] at h
       have h7:(l[k]).kind=7:=by rw [hkk]; simpa [eqI] using q7
       obtain ⟨okx,a0,a3⟩:=w.expr hk h7
       rw [hkx] at okx
       rw [hkg] at a0 a3
       obtain ⟨m,hm⟩:=Int.eq_ofNat_of_zero_le a0
       have hml:m < c.vars.length:=by rw [hI.vars]; omega
       have ge:=d7w (a5l l k) okx c.vars hI.vars hI.rng
       rw [e3] at h
       cases ev:a3e (a5l l k) c.vars with
       | none=>
        rw [ev] at h ge
        simp only [RE] at ge
        simp only [Option.some.injEq] at h
        have gs:=c5a (l:=l) c1 hI1.acts hI1.dues (by omega) 3
        subst h
        refine ⟨?_,hI1.stop 3⟩
        rw [hc1] at gs ⊢
        simp only [aC,aC0,cO,RC,RC0,a0k,iE,List.map_set] at gs ⊢
        refine a6i 1 ?_
        simp (maxSteps:=1000000) +contextual -dsimp [f161,q0,hk,hka,gk,hkk,hkx,q1,q4,q3,q8,q6,q7,ge,gs,List.set]
       | some v=>
        rw [ev] at h ge
        simp only [RE] at ge
        simp only [hm,Int.toNat_natCast] at h
        obtain ⟨g1,g2⟩:=g.ovr (hI1.var m (c1p okx ev)) hk (by rw [e3]; exact h)
        rw [hc1] at g1
        simp only [aC,cO,RC,iE,List.map_set] at g1
        refine ⟨?_,g2⟩
        refine a6i 1 ?_
        simp (maxSteps:=1000000) +contextual -dsimp [f161,q0,hk,hka,gk,hkk,hkx,hkg,hm,hml,q1,q4,q3,q8,q6,q7,ge,g1,List.set]
     ·simp only [q1,q4,q3,q8,q6,Bool.false_eq_true,if_false,if_true,Option.some.injEq] at h
      obtain ⟨a1,a2⟩:=w.arg hk (.inl (by simpa [eqI] using q6))
      have hw:IntKind.i64.wrap (c.now+N1 l k)=c.now+N1 l k:=by have:=hI.now0; have:=hI.now1; rw [A6] <;> omega
      subst h
      refine ⟨?_,by simpa only [e5,e2] using hI1.due k (c.now+N1 l k)⟩
      refine a6i 1 ?_
      simp (maxSteps:=1000000) +contextual -dsimp [f161,q0,hk,hka,hkd,gk,hkk,hkg,hw,q1,q4,q3,q8,q6,e1,e2,e3,e4,e5,List.set]
    ·simp only [q1,q4,q3,q8,Bool.false_eq_true,if_false,if_true] at h
     have h8:A8 l k=8:=by simpa [eqI] using q8
     obtain ⟨a1,a2⟩:=w.arg hk (.inr h8)
     have hw:IntKind.i64.wrap (c.now+N1 l k)=c.now+N1 l k:=by have:=hI.now0; have:=hI.now1; rw [A6] <;> omega
     rw [h8] at hn
     obtain ⟨x,r,rfl⟩:∃ x r,ks=x::r:=by
      cases ks with
      | nil=>simp [M7,eqI,inR,A2,leI] at hn
      | cons x r=>exact ⟨x,r,rfl⟩
     obtain ⟨y,rfl,hyl⟩:=hkm x (by simp)
     have es:A3 ((y:Int)::r) 0=y:=rfl
     rw [es,Int.toNat_natCast] at h
     obtain ⟨g1,g2⟩:=g.ent (hI1.due k (c1.now+N1 l k)) hyl h
     rw [hc1] at g1
     simp only [aC,cO,RC,iE,List.map_set] at g1
     refine ⟨?_,g2⟩
     refine a6i 1 ?_
     simp (maxSteps:=1000000) +contextual -dsimp [f161,q0,hk,hka,hkd,gk,hkk,hkg,hw,q1,q4,q3,q8,g1,List.set]
   ·simp only [q1,q4,q3,Bool.false_eq_true,if_false,if_true] at h
    have hcm:D3 l c1.vars ks=-1∨D3 l c1.vars ks=-2∨D3 l c1.vars ks∈ks:=by
     clear h hn h24 hks gk hch gcx
     induction ks with
     | nil=>exact .inr (.inl rfl)
     | cons x r ih=>
      have ih:=ih (fun y hy=>hkm y (by simp [hy]))
      unfold D3 a5p
      split
      ·split
       ·exact .inl rfl
       ·split
        ·exact .inr (.inr (by simp))
        ·rcases ih with h | h | h
         ·exact .inl h
         ·exact .inr (.inl h)
         ·exact .inr (.inr (by simp [h]))
      ·exact .inr (.inr (by simp))
    have hch:=hch (by simpa [eqI] using q3)
    rw [e3] at hcm gcx h
    rcases hcm with q | q | q
    ·have q':b4f (D3 l c.vars ks)=-1:=by rw [q]; rfl
     rw [q] at h
     simp [eqI] at h
     subst h
     have gs:=c5a (l:=l) c1 hI1.acts hI1.dues (by omega) 3
     rw [q'] at gcx
     refine ⟨?_,hI1.stop 3⟩
     rw [hc1] at gs gcx ⊢
     simp only [aC,aC0,cO,cT,iS,RC,RC0,a0k,iE,List.map_set] at gs gcx ⊢
     have l1:ltI (-1) 0=true:=rfl
     refine a6i 1 ?_
     simp (maxSteps:=1000000) +contextual -dsimp [f161,q0,hk,hka,gk,hkk,q1,q4,q3,gcx,gs,l1,List.set]
    ·exact absurd q hch
    ·obtain ⟨y,hy,hyl⟩:=hkm _ q
     have q':b4f (D3 l c.vars ks)=y:=by rw [hy]; simp [b4f,eqI] <;> omega
     rw [hy] at h
     rw [if_neg (by simp [eqI] <;> omega),if_neg (by simp [eqI] <;> omega),Int.toNat_natCast] at h
     obtain ⟨g1,g2⟩:=g.ent hI1 hyl h
     rw [q'] at gcx
     refine ⟨?_,g2⟩
     rw [hc1] at g1 gcx
     simp only [aC,cO,cT,iS,RC,iE,List.map_set] at g1 gcx
     have l1:ltI (y:Int) 0=false:=B7 (by omega)
     refine a6i 1 ?_
     simp (maxSteps:=1000000) +contextual -dsimp [f161,q0,hk,hka,gk,hkk,q1,q4,q3,gcx,g1,l1,List.set]
  ·simp only [q1,q4,Bool.false_eq_true,if_false,if_true] at h
   obtain ⟨g1,g2⟩:=f4v w g ks h24 hkm ks 0 c1 c' rfl hI1 h
   refine ⟨?_,g2⟩
   rw [hc1] at g1
   simp only [cO,iE,List.map_set] at g1
   simp -dsimp [f161] at g1
   refine a6i (ks.length+1) ?_
   simp (maxSteps:=1000000) +contextual -dsimp [f161,q0,hk,hka,gk,hkk,q1,q4,g1,List.set]
 ·simp only [q1,if_true] at h
  have h1:A8 l k=1:=by simpa [eqI] using q1
  rw [h1] at hn
  obtain ⟨x,r,rfl⟩:∃ x r,ks=x::r:=by
   cases ks with
   | nil=>simp [M7,eqI,inR,A2,leI] at hn
   | cons x r=>exact ⟨x,r,rfl⟩
  obtain ⟨y,rfl,hyl⟩:=hkm x (by simp)
  have es:A3 ((y:Int)::r) 0=y:=rfl
  rw [es,Int.toNat_natCast] at h
  obtain ⟨g1,g2⟩:=g.ent hI1 hyl h
  rw [hc1] at g1
  simp only [aC,cO,RC,iE,List.map_set] at g1
  refine ⟨?_,g2⟩
  refine a6i 1 ?_
  simp (maxSteps:=1000000) +contextual -dsimp [f161,q0,hk,hka,gk,hkk,q1,g1,List.set]
end
section
variable {l:List Step}
theorem g3y (w:Wf l) {go} (g:GoOk4 l go) (k:Nat) (hk:k < l.length) (c c':Chart) (hI:Inv l c)
    (h:a9p go l k (a0l (K3 l k) c)=some c'):fo 165 [A (.sl 124 (l.map (sT 219))),aC c,A (vI k)]=some (RC c')∧Inv l c':=by
  have hl24:=w.ok.le
  have gi:=d7z w c hI.acts hI.dues k hk
  obtain ⟨c1,hc1⟩:∃ c1:Chart,c1=a0l (K3 l k) c:=⟨_,rfl⟩
  have hI1:Inv l c1:=by rw [hc1]; exact hI.idle _
  rw [← hc1] at gi h
  unfold a9p at h
  cases q0:eqI (k:Int) 0
  · rw [q0, if_neg (by simp)] at h
    have hk0 : 0 < k := by rcases Nat.eq_zero_or_pos k with e | e; · subst e; simp [eqI] at q0
                           · exact e
    obtain ⟨p,hp,hpk⟩:=w.par hk hk0
    have hpl:p < l.length:=by omega
    rw [hp,Int.toNat_natCast] at h
    have hp':(l[k]).parent=(p:Int):=by rw [← a8p hk]; exact hp
    have hp0:ltI (p:Int) 0=false:=B7 (by omega)
    have hkp:(l[p]).kind=A8 l p:=(a8k hpl).symm
    have ga:=g2u w k p hk hp
    have hka:k < c1.acts.length:=by rw [hI1.acts]; exact hk
    have hmem:=w.kid_of hk hp
    rw [f0m hmem] at ga
    unfold b5d at h
    have hal:∀ c2:Chart,Inv l c2→fo 230 [A (.sl 124 (l.map (sT 219))),A (.ipt (cT c2)),A (vI p)]=some (R (vB (A0 (Q4 (a1s c2.acts) (A7 p 0 l))))):=fun c2 h2=>h1v w c2 h2.acts p
    generalize hks:A7 p 0 l=ks at *
    have hkm:∀ x,x∈ks→∃ a:Nat,x=a∧a < l.length:=fun x hx=>by
      rw [← hks] at hx
      obtain ⟨a,h1,h2,_⟩:=w.kid hx
      exact ⟨a,h1,h2⟩
    cases q1:eqI (A8 l p) 1
    · cases q4 : eqI (A8 l p) 4
      · simp only [q1, q4, Bool.false_eq_true, if_false] at h
        obtain ⟨g1,g2⟩:=g.ovr hI1 hpl h
        refine ⟨?_,g2⟩
        refine b1u 1 ?_
        simp (maxSteps:=1000000) +contextual -dsimp [f165,gi,hk,hp',hp0,hpl,hkp,q1,q4,g1,List.set]
      · simp only [q1, q4, Bool.false_eq_true, if_false, if_true] at h
        obtain ⟨c2,hc2⟩:∃ c2:Chart,c2={ c1 with acts:=c1.acts.set k 2 }:=⟨_,rfl⟩
        have hI2:Inv l c2:=by rw [hc2]; exact hI1.act k 2
        have ea:c2.acts=c1.acts.set k 2:=by rw [hc2]
        rw [← hc2,← ea] at h
        have gn:=hal c2 hI2
        cases q5:Q4 (a1s c2.acts) ks
        · rw [q5] at h gn
          rw [b8k] at gn
          simp only [Bool.false_eq_true,if_false] at h
          obtain ⟨g1,g2⟩:=g.ovr hI2 hpl h
          refine ⟨?_,g2⟩
          rw [hc2] at gn g1
          simp only [aC,cO,cT,iS,RC,iE,List.map_set] at gn g1
          refine b1u 1 ?_
          simp (maxSteps:=1000000) +contextual -dsimp [f165,gi,hk,hka,hp',hp0,hpl,hkp,q1,q4,gn,g1,List.set]
        · rw [q5] at h gn
          rw [b8j] at gn
          simp only [if_true,Option.some.injEq] at h
          subst h
          refine ⟨?_,hI2⟩
          rw [hc2] at gn ⊢
          simp only [aC,cO,cT,iS,RC,iE,List.map_set] at gn ⊢
          refine b1u 1 ?_
          simp (maxSteps:=1000000) +contextual -dsimp [f165,gi,hk,hka,hp',hp0,hpl,hkp,q1,q4,gn,List.set]
    · simp only [q1, if_true] at h
      obtain ⟨j,e1,e2,e3⟩:=b3n hmem
      rw [e1] at h ga
      obtain ⟨j1,hj1⟩:∃ j1,j1=j+1:=⟨_,rfl⟩
      have hj2:(j:Int)+1=(j1:Int):=by omega
      rw [hj2] at h ga
      cases q2:ltI (j1:Int) ks.length
      · rw [q2, if_neg (by simp)] at h ga
        have l1:leI 0 (-1)=false:=rfl
        obtain ⟨g1,g2⟩:=g.ovr hI1 hpl h
        refine ⟨?_,g2⟩
        refine b1u 1 ?_
        simp (maxSteps:=1000000) +contextual -dsimp [f165,gi,hk,hp',hp0,hpl,hkp,q1,ga,l1,g1,List.set]
      · rw [q2, if_pos rfl] at h ga
        have hj:j1 < ks.length:=by simp [ltI] at q2; omega
        obtain ⟨y,hy,hyl⟩:=hkm _ (a7b hj)
        rw [hy] at ga h
        rw [Int.toNat_natCast] at h
        have l1:leI 0 (y:Int)=true:=h4z (by omega)
        obtain ⟨g1,g2⟩:=g.ent hI1 hyl h
        refine ⟨?_,g2⟩
        refine b1u 1 ?_
        simp (maxSteps:=1000000) +contextual -dsimp [f165,gi,hk,hp',hp0,hpl,hkp,q1,ga,l1,g1,List.set]
  · rw [q0, if_pos rfl] at h
    simp only [Option.some.injEq] at h
    subst h
    have hk0 : k = 0 := by have : (k : Int) = 0 := by simpa [eqI] using q0
                           omega
    subst hk0
    have hp':(l[0]).parent=-1:=w.ok.par0 hk
    have l1:ltI (-1) 0=true:=rfl
    have gs:=c5a (l:=l) c1 hI1.acts hI1.dues (by omega) 2
    have e0:((0:Nat):Int)=0:=rfl
    rw [e0] at gi ⊢
    refine ⟨?_,hI1.stop 2⟩
    refine b1u 1 ?_
    simp (maxSteps:=1000000) +contextual -dsimp [f165,gi,hk,hp',l1,gs,List.set]
theorem b7g (w:Wf l):∀ f,GoOk4 l (goC l f)
 | 0,_,_,_,_,_,_,h=>by simp [goC] at h
 | f+1,true,k,c,c',hI,hk,h=>by
  unfold goC at h
  exact g0x w (b7g w f) k hk c c' hI h
 | f+1,false,k,c,c',hI,hk,h=>by
  unfold goC at h
  exact g3y w (b7g w f) k hk c c' hI h
end
end Go.TM.Ft
namespace Go.TM.Ft
open Go Go.TM Go.Proofs Go.Proofs.Tryz
set_option maxRecDepth 20000
section
variable {l:List Step}
theorem d6j (a:Nat):∀ (f i:Nat),(L2 l a f i).length≤f
 | 0,_=>by simp [L2]
 | f+1,i=>by
  unfold L2
  split
  ·have:=d6j a f (i+1); simp; omega
  ·simp
theorem d2s (w:Wf l) (a:Nat):∀ (f i:Nat),i+f=l.length→a < i→Und l a (i - 1)→∀ j,i≤j→j < i+(L2 l a f i).length→Und l a j
 | 0,i,_,_,_,j,h1,h2=>by simp [L2] at h2; omega
 | f+1,i,h,hai,hu,j,h1,h2=>by
  unfold L2 at h2
  split at h2
  ·rename_i c
   have hi:i < l.length:=by omega
   have hd:dep l a < dep l i:=by simp [A2,ltI] at c; exact c.2
   have hui:=w.piece2 hi hai hu hd
   rcases Nat.lt_or_ge i j with h' | h'
   ·simp only [List.length_cons] at h2
    exact d2s w a f (i+1) (by omega) (by omega) (by simpa using hui) j h' (by omega)
   ·have:j=i:=by omega
    rw [this]; exact hui
  ·simp at h2; omega
theorem d2t (w:Wf l) (a:Nat):∀ (f i m:Nat),i+f=l.length→a < i→m < l.length→(∀ j,i≤j→j≤m→Und l a j)→m+1≤i+(L2 l a f i).length
 | 0,i,m,h,_,hm,_=>by omega
 | f+1,i,m,h,hai,hm,hu=>by
  rcases Nat.lt_or_ge m i with h' | h'
  ·omega
  ·have hi:i < l.length:=by omega
   have hui:=hu i (Nat.le_refl _) h'
   have hd:=(w.piece hi hui hai).2
   have hc:A2 (ltI (i:Int) l.length) (ltI (dep l a) (dep l i))=true:=by simp [A2,ltI]; exact ⟨by omega,hd⟩
   unfold L2
   rw [if_pos hc]
   have:=d2t w a f (i+1) m (by omega) (by omega) hm (fun j h1 h2=>hu j (by omega) h2)
   simp; omega
def en (l:List Step) (k:Nat):Nat:=k+(L2 l k (l.length - (k+1)) (k+1)).length
theorem f4w (k:Nat):k≤en l k:=by unfold en; omega
theorem b8l {k:Nat} (hk:k < l.length):en l k < l.length:=by
 have:=d6j (l:=l) k (l.length - (k+1)) (k+1)
 unfold en; omega
theorem c5f (w:Wf l) {k j:Nat} (hk:k < l.length) (h1:k≤j) (h2:j≤en l k):Und l k j:=by
 rcases Nat.lt_or_ge k j with h | h
 ·exact d2s w k (l.length - (k+1)) (k+1) (by omega) (by omega) (by simpa using Und.self) j (by omega) (by unfold en at h2; omega)
 ·have:j=k:=by omega
  rw [this]; exact .self
theorem h3t (w:Wf l) {k j:Nat} (hk:k < l.length) (hj:j < l.length) (hu:Und l k j):j≤en l k:=by
 rcases Nat.lt_or_ge k j with h | h
 ·have:=d2t w k (l.length - (k+1)) (k+1) j (by omega) (by omega) hj (fun i h1 h2=>w.between hj hu (j - i) i (by omega) (by omega))
  unfold en; omega
 ·unfold en; omega
theorem h5a (w:Wf l) {k p:Nat} (hk:k < l.length) (hp:parOf l k=(p:Int)) (hpk:p < k):en l k≤en l p:=
 h3t w (by omega) (b8l hk) ((Und.up hk hp hpk .self).trans (c5f w hk (f4w k) (Nat.le_refl _)))
theorem h1g (w:Wf l) {k s p:Nat} (hk:k < l.length) (hs:s < l.length) (hks:k < s) (hp:parOf l s=(p:Int)) (hpk:p < k):en l k < s:=by
 rcases Nat.lt_or_ge (en l k) s with h | h
 ·exact h
 ·have hu:=c5f w hk (Nat.le_of_lt hks) h
  have:=(hu.down (by omega) hp).le
  omega
theorem h1h (w:Wf l) {k:Nat} (hk:k < l.length) (h:A7 k 0 l=[]):en l k=k:=by
 rcases Nat.lt_or_ge k (en l k) with h1 | h1
 ·exfalso
  have hu:=c5f w hk (Nat.le_succ k) h1
  have hk1:k+1 < l.length:=by have:=b8l hk; omega
  obtain ⟨q,h2,h3⟩:=w.par hk1 (by omega)
  have:=(hu.down (by omega) h2).le
  have e:q=k:=by omega
  rw [e] at h2
  have:=w.kid_of hk1 h2
  rw [h] at this; simp at this
 ·have:=f4w (l:=l) k; omega
theorem c8l {p:Int}:∀ (r:List Step) (i:Nat),(B5 p i r).Pairwise (· < ·)∧∀ x,x∈B5 p i r→(i:Int)≤x
 | [],i=>by simp [B5]
 | s::r,i=>by
  obtain ⟨h1,h2⟩:=c8l (p:=p) r (i+1)
  unfold B5
  split
  ·refine ⟨List.pairwise_cons.2 ⟨fun x hx=>by have:=h2 x hx; omega,h1⟩,fun x hx=>?_⟩
   rcases List.mem_cons.1 hx with rfl | hx
   ·omega
   ·have:=h2 x hx; omega
  ·exact ⟨h1,fun x hx=>by have:=h2 x hx; omega⟩
def mu (l:List Step):Bool→Nat→Nat
 | true,k=>(l.length - k)*26+25
 | false,k=>(l.length - en l k)*26+k
theorem d2u {go:Bool→Nat→Chart→Option Chart}:∀ (ks:List Int) (c:Chart),(∀ x,x∈ks→∀ c,∃ c',go true x.toNat c=some c')→∃ c',a3v go ks c=some c'
 | [],c,_=>⟨c,rfl⟩
 | k::r,c,h=>by
  obtain ⟨c1,h1⟩:=h k (by simp) c
  obtain ⟨c2,h2⟩:=d2u r c1 (fun x hx=>h x (by simp [hx]))
  exact ⟨c2,by simp only [a3v,h1,h2]⟩
theorem c0o (l:List Step) (vars:List Int):∀ (ks:List Int),D3 l vars ks=-1∨D3 l vars ks=-2∨D3 l vars ks∈ks
 | []=>.inr (.inl rfl)
 | x::r=>by
  have ih:=c0o l vars r
  unfold D3 a5p
  split
  ·split
   ·exact .inl rfl
   ·split
    ·exact .inr (.inr (by simp))
    ·rcases ih with h | h | h
     ·exact .inl h
     ·exact .inr (.inl h)
     ·exact .inr (.inr (by simp [h]))
  ·exact .inr (.inr (by simp))
theorem Wf.kid0 (w:Wf l) {k:Nat} (hk:k < l.length) (h:A8 l k=1∨A8 l k=8):∃ a:Nat,A3 (A7 k 0 l) 0=a∧a < l.length∧k < a:=by
 have hn:=w.kidsN hk
 have hpos:0 < (A7 k 0 l).length:=by rcases h with h | h <;> rw [h] at hn <;> simp [M7,eqI,inR,A2,leI] at hn <;> omega
 have hm:=a7b hpos
 obtain ⟨a,h1,h2,h3,_⟩:=w.kid hm
 exact ⟨a,h1,h2,h3⟩
theorem g3z (w:Wf l) (f k:Nat) (hk:k < l.length) (hm:mu l true k < f+1) (ent:∀ (a:Nat) (c:Chart),a < l.length→k < a→∃ c',goC l f true a c=some c') (c:Chart)
  (ovr:∀ c,mu l false k < f→∃ c',goC l f false k c=some c'):∃ c',a8c (goC l f) l k c=some c':=by
  unfold a8c
  split
  ·rename_i q
   obtain ⟨a,h1,h2,h3⟩:=w.kid0 hk (.inl (by simpa [eqI] using q))
   rw [h1,Int.toNat_natCast]
   exact ent a _ h2 h3
  split
  ·refine d2u _ _ fun x hx c=>?_
   obtain ⟨a,h1,h2,h3,_⟩:=w.kid hx
   rw [h1,Int.toNat_natCast]
   exact ent a _ h2 h3
  split
  ·split
   ·exact ⟨_,rfl⟩
   ·rename_i n1
    split
    ·exact ⟨_,rfl⟩
    ·rename_i n2
     rcases c0o l _ (A7 k 0 l) with h | h | h
     ·exact absurd (by rw [h]; rfl) n1
     ·exact absurd (by rw [h]; rfl) n2
     ·obtain ⟨a,h1,h2,h3,_⟩:=w.kid h
      rw [h1,Int.toNat_natCast]
      exact ent a _ h2 h3
  split
  ·rename_i q
   obtain ⟨a,h1,h2,h3⟩:=w.kid0 hk (.inr (by simpa [eqI] using q))
   rw [h1,Int.toNat_natCast]
   exact ent a _ h2 h3
  split
  ·exact ⟨_,rfl⟩
  split
  ·rename_i q
   have h7:A8 l k=7:=by simpa [eqI] using q
   have hn:=w.kidsN hk
   rw [h7] at hn
   have h0:A7 k 0 l=[]:=by
    have e:M7 7=(0,0):=rfl
    rw [e] at hn
    simp only [inR,A2,leI,Bool.and_eq_true,decide_eq_true_eq] at hn
    exact List.length_eq_zero_iff.1 (by omega)
   split
   ·exact ⟨_,rfl⟩
   ·refine ovr _ ?_
    simp only [mu,h1h w hk h0] at hm ⊢
    have:=w.ok.le
    omega
  ·exact ⟨_,rfl⟩
theorem b4d (w:Wf l):∀ (f:Nat) (b:Bool) (k:Nat) (c:Chart),k < l.length→mu l b k < f→∃ c',goC l f b k c=some c'
 | 0,_,_,_,_,h=>by omega
 | f+1,true,k,c,hk,hm=>by
  have ent:∀ (a:Nat) (c:Chart),a < l.length→k < a→∃ c',goC l f true a c=some c':=fun a c ha hka=>b4d w f true a c ha (by simp only [mu] at hm ⊢; omega)
  unfold goC
  by_cases q0:eqI c.status 1=true
  ·rw [if_pos q0]
   exact g3z w f k hk hm ent _ (fun c=>b4d w f false k c hk)
  ·rw [if_neg q0]; exact ⟨c,rfl⟩
 | f+1,false,k,c,hk,hm=>by
  unfold goC a9p
  split
  ·exact ⟨_,rfl⟩
  rename_i q0
  have hk0:0 < k:=by
   rcases Nat.eq_zero_or_pos k with e | e
   ·subst e; exact absurd rfl q0
   ·exact e
  obtain ⟨p,hp,hpk⟩:=w.par hk hk0
  have hpl:p < l.length:=by omega
  rw [hp,Int.toNat_natCast]
  have hen:=h5a w hk hp hpk
  have hel:=b8l hpl
  have ovr:∀ c,∃ c',goC l f false p c=some c':=fun c=>b4d w f false p c hpl (by simp only [mu] at hm ⊢; omega)
  unfold b5d
  split
  ·split
   ·rename_i q2
    have hmem:=w.kid_of hk hp
    obtain ⟨j,e1,e2,e3⟩:=b3n hmem
    have ej:(j:Int)+1=((j+1:Nat):Int):=by omega
    rw [e1,ej] at q2 ⊢
    have hj:j+1 < (A7 p 0 l).length:=by simp [ltI] at q2; omega
    obtain ⟨s,h1,h2,h3,h4⟩:=w.kid (a7b hj)
    rw [h1,Int.toNat_natCast]
    have hks:k < s:=by
     have hs:=(c8l (p:=(p:Int)) l 0).1
     rw [← a4d w.ok] at hs
     have:=List.pairwise_iff_getElem.1 hs j (j+1) e2 hj (by omega)
     rw [← K4 e2,← K4 hj,e3,h1] at this
     omega
    have hns:=h1g w hk h2 hks h4 hpk
    refine b4d w f true s _ h2 ?_
    have:=b8l hk
    simp only [mu] at hm ⊢
    omega
   ·exact ovr _
  split
  ·split
   ·exact ⟨_,rfl⟩
   ·exact ovr _
  ·exact ovr _
theorem h5b (w:Wf l) (b:Bool) (k:Nat) (hk:k < l.length):mu l b k < 700:=by
 have:=w.ok.le
 cases b <;> simp only [mu] <;> omega
def goX (l:List Step) (b:Bool) (k:Nat) (c:Chart):Chart:=(goC l 700 b k c).getD c
theorem b0m (w:Wf l) (b:Bool) (k:Nat) (c:Chart) (hk:k < l.length):goC l 700 b k c=some (goX l b k c):=by
 obtain ⟨c',h⟩:=b4d w 700 b k c hk (h5b w b k hk)
 unfold goX
 rw [h]; rfl
theorem g0y (w:Wf l) {c:Chart} (hI:Inv l c) (k:Nat) (hk:k < l.length):fo 171 [aB l c,A (vI k)]=some (RB l (goX l true k c))∧Inv l (goX l true k c):=(b4r w 700).ent hI hk (b0m w true k c hk)
theorem g4a (w:Wf l) {c:Chart} (hI:Inv l c) (k:Nat) (hk:k < l.length):fo 193 [aB l c,A (vI k)]=some (RB l (goX l false k c))∧Inv l (goX l false k c):=(b4r w 700).ovr hI hk (b0m w false k c hk)
theorem f9h (w:Wf l) {c:Chart} (hI:Inv l c) (k:Nat) (hk:k < l.length):fo 161 [A (.sl 124 (l.map (sT 219))),aC c,A (vI k)]=some (RC (goX l true k c)):=((b7g w 700).ent hI hk (b0m w true k c hk)).1
theorem g0z (w:Wf l) {c:Chart} (hI:Inv l c) (k:Nat) (hk:k < l.length):fo 165 [A (.sl 124 (l.map (sT 219))),aC c,A (vI k)]=some (RC (goX l false k c)):=((b7g w 700).ovr hI hk (b0m w false k c hk)).1
end
attribute [local congr] K9
attribute [local simp] J8 K0 J0 J9 H3 J6 H4 G4 H5 G1 a1r a6b
theorem a9z (l:List Int):H7 (iE l)=true:=by induction l <;> simp_all [H7,P1,clean]
attribute [local simp] a9z
theorem f3m (l:List Int):((iE l).all fun c=>c.all a2a)=true:=by
 rw [List.all_eq_true]; intro c hc; obtain ⟨x,_,rfl⟩:=List.mem_map.1 hc; rfl
theorem b3v {n:Nat} (h:n≤1048576):n≤B9:=by unfold B9; omega
theorem c4r (l:List Int) (hl:l.length≤1048576):fo 170 [A (iS l)]=some ⟨.own 2 (iE l),[],true⟩:=by
 refine f0y (g:=a7m 2) rfl ?_
 have h1:=f3m l
 have h2:=b3v hl
 simp only [a7m]
 rw [if_pos ⟨trivial,h1,by simpa using h2⟩,a9z]
theorem c3a (l:List Int) (hl:l.length≤1048576):fo 160 [A (iS l)]=some ⟨.own 2 (iE l),[],true⟩:=by
 have h1:=f3m l
 have h2:=b3v hl
 have hm:(iE l).length≤B9:=by simpa using h2
 refine g7u 1 ?_
 simp (maxSteps:=1000000) +contextual -dsimp [f160,h1,h2,hm,List.set]
structure Few (c:Chart):Prop where
 vars:c.vars.length≤1048576
 acts:c.acts.length≤1048576
 dues:c.dues.length≤1048576
theorem d6k (c:Chart) (h:Few c):fo 188 [A (.agg (cT c))]=some ⟨.agg (cO c),[],true⟩:=by
 have g1:=c4r c.vars h.vars
 have g2:=c4r c.acts h.acts
 have g3:=c4r c.dues h.dues
 refine g8i 1 ?_
 simp (maxSteps:=1000000) +contextual -dsimp [f188,g1,g2,g3,List.set]
theorem g4b (c:Chart) (h:Few c):fo 164 [A (.agg (cT c))]=some ⟨.agg (cO c),[],true⟩:=by
 have g1:=c3a c.vars h.vars
 have g2:=c3a c.acts h.acts
 have g3:=c3a c.dues h.dues
 refine g7w 1 ?_
 simp (maxSteps:=1000000) +contextual -dsimp [f164,g1,g2,g3,List.set]
def noC:Chart:=⟨0,0,[],[],[]⟩
abbrev RR (r:Int × Chart):Res:=⟨.agg (vI r.1::cO r.2),[],true⟩
theorem f9i {v:List Int} (h:a2k v=0):v.length=4∧∀ x,x∈v→badV x=false:=by
 unfold a2k at h
 obtain ⟨h1,h2⟩:=a0a h
 have h1:=b1y (by omega) h1
 have h2:=b1y (by omega) h2
 rw [b0d] at h2
 refine ⟨by simp [A0,eqI] at h1; omega,fun x hx=>?_⟩
 rw [List.any_eq_false] at h2
 have:=h2 x hx
 cases q:badV x
 ·rfl
 ·exact absurd q this
theorem f3n {l:List Step} {c:Chart} (h:chartM l c=0):Inv l c∧Wf l∧1≤c.status∧c.status≤3:=by
 obtain ⟨z1,z2,z3,z4,z5,z6⟩:=b5p (b9u h)
 obtain ⟨v1,v2⟩:=f9i z4
 exact ⟨⟨v1,z5,z6,z3.1,z3.2,v2⟩,h5o z1,z2.1,z2.2⟩
theorem Inv.few {l:List Step} {c:Chart} (h:Inv l c) (w:Wf l):Few c:=by
 have:=w.ok.le
 exact ⟨by rw [h.vars]; omega,by rw [h.acts]; omega,by rw [h.dues]; omega⟩
end Go.TM.Ft
namespace Go.TM.Ft
open Go Go.TM Go.Proofs Go.Proofs.Tryz
set_option maxRecDepth 20000
attribute [local congr] K9
attribute [local simp] J8 K0 J0 J9 H3 J6 H4 G4 H5 G1 a1r a6b a9z
end Go.TM.Ft
