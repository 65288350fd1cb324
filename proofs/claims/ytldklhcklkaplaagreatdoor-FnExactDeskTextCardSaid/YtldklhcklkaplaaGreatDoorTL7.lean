/- What functions of the program come to, by the machine. -/
import Derived.Test.YtldklhcklkaplaaGreatDoorTL6
set_option linter.unusedSimpArgs false
set_option linter.unusedVariables false
set_option maxHeartbeats 4000000
namespace Go.TM.It
open Go Go.TM Go.Proofs
set_option maxRecDepth 20000
attribute [local congr] gif_cg
attribute [local simp] footOf noClash clash upsets setsHit setHits layHits layMeets setsMeet evFeet
theorem FitP.x {p:List Step} (h:FitP p):FitX p:=fun s hs=>⟨(h.steps s hs).name,(h.steps s hs).cond,(h.steps s hs).expr⟩
def procs4M:List (List Step)→Int
 | []=>0
 | p::r=>if notB (eqI (fault4M p) 0)=true then fault4M p else procs4M r
theorem lp64 (all:List (List Step)) (hall:all.length≤1000) (hf:∀ p,p∈all→FitP p):∀ (rest:List (List Step)) (i:Nat),all.drop i=rest→
    evLoop E (orc E) (56:Nat) (rest.length+1) (loopOf Tryz.f56 0) ⟨28,[(0,.sl 82 (all.map (pT 112 206))),(3,vI i)],[],2⟩=
    (if eqI (procs4M rest) 0 = true then some (.exit 0, ⟨28, [(0, .sl 82 (all.map (pT 112 206))), (3, vI (i + rest.length : Nat)), (16, vB false)], [], 2⟩)
     else some (.ret,⟨28,[(2,vI (procs4M rest))],[],2⟩))
  | [],i,h=>by
    have hge:all.length≤i:=by simpa using h
    have hlt:ltI (i:Int) (all.length:Int)=false:=ltI_f (by omega)
    rw[loop_eq]
    simp +contextual -dsimp [Tryz.f56,hlt,procs4M,eqI_self]
  | s::rest,i,h=>by
    obtain⟨hi,hc,hr⟩:=drop_cons h
    have hlt:ltI (i:Int) (all.length:Int)=true:=ltI_t (by omega)
    have hw:IntKind.i64.wrap ((i:Int)+1)=((i+1:Nat):Int):=by rw[wrapI]<;>omega
    have he:i+1+rest.length=i+(rest.length+1):=by omega
    have hs:=hf s (by rw[←hc];exact List.getElem_mem _)
    have g:=f_l4Fault s hs.len hs.x
    cases q:eqI (fault4M s) 0
    · have hm : procs4M (s :: rest) = fault4M s := by simp [procs4M, q, notB]
      rw[hm,q,if_neg (by simp)]
      refine evLoop_out ?_ (by simp)
      simp (maxSteps:=1000000) +contextual -dsimp [Tryz.f56,hlt,hi,hc,g,q]
    · have ih := lp64 all hall hf rest (i + 1) hr
      rw[he] at ih
      have hm:procs4M (s::rest)=procs4M rest:=by simp[procs4M,q,notB]
      rw[hm]
      refine evLoop_next ?_ (by simpa only[List.length_cons] using ih)
      simp (maxSteps:=1000000) +contextual -dsimp [Tryz.f56,hlt,hi,hc,hw,g,q]
def procs4F (ps:List (List Step)):Int:=if orB (ltI ps.length 1) (ltI 3 ps.length)=true then 2 else procs4M ps
theorem f_l11Procs (ps:List (List Step)) (hps:ps.length<2 ^ 62) (hf:∀ p,p∈ps→FitP p):fo 56 [A (.sl 82 (ps.map (pT 112 206)))]=some (R (vI (procs4F ps))):=by
 unfold procs4F
 cases c1:orB (ltI ps.length 1) (ltI 3 ps.length)
 ·have hl:ps.length≤1000:=by simp[orB,ltI] at c1;omega
  have hlp:=lp64 ps hl hf ps 0 rfl
  refine orc_56 (ps.length+1) ?_
  simp -dsimp [Tryz.f56] at hlp
  cases c2:eqI (procs4M ps) 0
  ·rw[c2] at hlp
   simp (maxSteps:=1000000) +contextual -dsimp [Tryz.f56,c1,hlp]
  ·rw[c2] at hlp
   have e0:procs4M ps=0:=by simpa[eqI] using c2
   simp (maxSteps:=1000000) +contextual -dsimp [Tryz.f56,c1,e0,hlp]
 ·refine orc_56 1 ?_
  simp (maxSteps:=1000000) +contextual -dsimp [Tryz.f56,c1]
def inst4M (e:Engine) (x:Inst):Int:=
 if notB (inR x.proc 0 ((e.procs.length:Int) - 1))=true then 3
 else if notB (eqI (fault9 (stepsOf e x) x.chart) 0)=true then fault9 (stepsOf e x) x.chart
 else if notB (eqI x.chart.now e.now)=true then 9 else 0
def insts4M (e:Engine):List Inst→Int
 | []=>0
 | x::r=>if eqI (inst4M e x) 0=true then insts4M e r else inst4M e x
theorem lp38 (e:Engine) (tl:List T) (hf:FitE e):∀ (rest:List Inst) (i:Nat),e.insts.drop i=rest→
    evLoop E (orc E) (31:Nat) (rest.length+1) (loopOf Tryz.f31 0) ⟨82,[(0,.ipt (.sl 82 (e.procs.map (pT 112 206))::.sl 77 (e.insts.map xT)::vI e.now::tl)),(4,vI i)],[],2⟩=
    (if eqI (insts4M e rest) 0 = true then some (.exit 0, ⟨82, [(0, .ipt (.sl 82 (e.procs.map (pT 112 206)) :: .sl 77 (e.insts.map xT) :: vI e.now :: tl)), (4, vI (i + rest.length : Nat)), (33, vB false)], [], 2⟩)
     else some (.ret,⟨82,[(2,vI (insts4M e rest))],[],2⟩))
  | [],i,h=>by
    have hge:e.insts.length≤i:=by simpa using h
    have hlt:ltI (i:Int) (e.insts.length:Int)=false:=ltI_f (by omega)
    rw[loop_eq]
    simp +contextual -dsimp [Tryz.f31,hlt,insts4M,eqI_self]
  | x::rest,i,h=>by
    obtain⟨hi,hc,hr⟩:=drop_cons h
    have hni:=hf.ni
    have hnp:=hf.np
    have hlt:ltI (i:Int) (e.insts.length:Int)=true:=ltI_t (by omega)
    have hw:IntKind.i64.wrap ((i:Int)+1)=((i+1:Nat):Int):=by rw[wrapI]<;>omega
    have hw2:IntKind.i64.wrap ((e.procs.length:Int) - 1)=(e.procs.length:Int) - 1:=by rw[wrapI]<;>omega
    have he:i+1+rest.length=i+(rest.length+1):=by omega
    have out:∀ k:Int,inst4M e x=k→eqI k 0=false→insts4M e (x::rest)=k:=fun k h1 h2=>by simp[insts4M,h1,h2]
    cases q1:inR x.proc 0 ((e.procs.length:Int) - 1)
    · have hm := out 3 (by simp [inst4M, q1, notB]) rfl
      have h30:eqI (3:Int) 0=false:=rfl
      rw[hm,h30,if_neg (by simp)]
      refine evLoop_out ?_ (by simp)
      simp (maxSteps:=1000000) +contextual -dsimp [Tryz.f31,hlt,hi,hc,hw2,f_l1In,q1]
    · obtain ⟨a, hx, ha⟩ : ∃ a : Nat, x.proc = a ∧ a < e.procs.length := by
        simp[inR,andB,leI] at q1
        obtain⟨k,hk⟩:=Int.eq_ofNat_of_zero_le q1.1
        exact⟨k,hk,by omega⟩
      have q1':=q1
      rw[hx] at q1'
      have hp:=hf.procs (e.procs[a]) (List.getElem_mem _)
      have e2:stepsOf e x=e.procs[a]:=by simp[stepsOf,hx,ha]
      have g2:=f_l9Fault (e.procs[a]) hp.len hp.x x.chart
      cases q2:eqI (fault9 (e.procs[a]) x.chart) 0
      · have hm := out (fault9 (e.procs[a]) x.chart) (by simp [inst4M, q1, e2, q2, notB]) q2
        rw[hm,q2,if_neg (by simp)]
        refine evLoop_out ?_ (by simp)
        simp (maxSteps:=1000000) +contextual -dsimp [Tryz.f31,hlt,hi,hc,hw2,f_l1In,hx,ha,q1',g2,q2]
      · cases q3 : eqI x.chart.now e.now
        · have hm := out 9 (by simp [inst4M, q1, e2, q2, q3, notB]) rfl
          have h30:eqI (9:Int) 0=false:=rfl
          rw[hm,h30,if_neg (by simp)]
          refine evLoop_out ?_ (by simp)
          simp (maxSteps:=1000000) +contextual -dsimp [Tryz.f31,hlt,hi,hc,hw2,f_l1In,hx,ha,q1',g2,q2,q3]
        · have h3 : inst4M e x = 0 := by simp [inst4M, q1, e2, q2, q3, notB]
          have ih:=lp38 e tl hf rest (i+1) hr
          rw[he] at ih
          have hm:insts4M e (x::rest)=insts4M e rest:=by simp[insts4M,h3,eqI_self]
          rw[hm]
          refine evLoop_next ?_ (by simpa only[List.length_cons] using ih)
          simp (maxSteps:=1000000) +contextual -dsimp [Tryz.f31,hlt,hi,hc,hw,hw2,f_l1In,hx,ha,q1',g2,q2,q3]
def eng4M (e:Engine):Int:=
 if ltI 6 e.insts.length=true then 2
 else if notB (eqI (procs4F e.procs) 0)=true then procs4F e.procs
 else if notB (inR e.now 0 1000000)=true then 3
 else insts4M e e.insts
theorem f_l11Fault (e:Engine) (tl:List T) (hf:FitE e):fo 31 [A (.ipt (.sl 82 (e.procs.map (pT 112 206))::.sl 77 (e.insts.map xT)::vI e.now::tl))]=some (R (vI (eng4M e))):=by
 have g1:=f_l11Procs e.procs hf.np hf.procs
 have hlp:=lp38 e tl hf e.insts 0 rfl
 simp -dsimp [Tryz.f31] at hlp
 unfold eng4M
 refine orc_31 (e.insts.length+1) ?_
 cases q1:ltI 6 e.insts.length
 ·cases q2:eqI (procs4F e.procs) 0
  ·simp (maxSteps:=1000000) +contextual -dsimp [Tryz.f31,g1,q1,q2]
  ·have e0:procs4F e.procs=0:=by simpa[eqI] using q2
   cases q3:inR e.now 0 1000000
   ·simp (maxSteps:=1000000) +contextual -dsimp [Tryz.f31,f_l8Time,g1,q1,e0,eqI_self,q3]
   ·cases q4:eqI (insts4M e e.insts) 0
    ·rw[q4] at hlp
     simp (maxSteps:=1000000) +contextual -dsimp [Tryz.f31,f_l8Time,g1,q1,e0,eqI_self,q3,hlp]
    ·rw[q4] at hlp
     have e1:insts4M e e.insts=0:=by simpa[eqI] using q4
     simp (maxSteps:=1000000) +contextual -dsimp [Tryz.f31,f_l8Time,g1,q1,e0,eqI_self,q3,e1,hlp]
 ·simp (maxSteps:=1000000) +contextual -dsimp [Tryz.f31,q1]
theorem f_l12User (n:Int):fo 32 [A (vI n)]=some (R (vB (inR n 1 9))):=by
 refine orc_32 1 ?_
 simp (maxSteps:=1000000) +contextual -dsimp [Tryz.f32,f_l1In]
def aheadM (a b:Claim):Bool:=orB (ltI a.inst b.inst) (andB (eqI a.inst b.inst) (ltI a.step b.step))
theorem f_l12Ahead (a b:Claim):fo 34 [A (.agg (kT a)),A (.agg (kT b))]=some (R (vB (aheadM a b))):=by
 unfold aheadM
 refine orc_34 1 ?_
 simp (maxSteps:=1000000) +contextual -dsimp [Tryz.f34]
theorem f_l12Open (e:Engine) (tl:List T) (i:Nat) (hi:i<e.insts.length) (a:Nat) (hx:(e.insts[i]).proc=a) (ha:a<e.procs.length) (hl:(e.procs[a]).length<2 ^ 62)
  (hc:(e.insts[i]).chart.acts.length=(e.procs[a]).length) (step:Int):
  fo 33 [A (.ipt (.sl 82 (e.procs.map (pT 112 206))::.sl 77 (e.insts.map xT)::vI e.now::tl)),A (vI i),A (vI step)]=some (R (vB (isOpenM e i step))):=by
 have e1:instAt e i=e.insts[i]:=by simp[instAt,hi]
 have e2:stepsOf e (e.insts[i])=e.procs[a]:=by simp[stepsOf,hx,ha]
 have hw:IntKind.i64.wrap (((e.procs[a]).length:Int) - 1)=((e.procs[a]).length:Int) - 1:=by rw[wrapI]<;>omega
 unfold isOpenM
 rw[e1,e2]
 unfold openM
 refine orc_33 1 ?_
 cases q:inR step 0 (((e.procs[a]).length:Int) - 1)
 ·simp (maxSteps:=1000000) +contextual -dsimp [Tryz.f33,f_l1In,hi,hx,ha,hw,q]
 ·obtain⟨k,rfl,hk⟩:∃ k:Nat,step=k∧k<(e.procs[a]).length:=by
   simp[inR,andB,leI] at q
   obtain⟨k,rfl⟩:=Int.eq_ofNat_of_zero_le q.1
   exact⟨k,rfl,by omega⟩
  have hka:k<(e.insts[i]).chart.acts.length:=by omega
  have hs:szAt (e.insts[i]).chart.acts (k:Int)=(e.insts[i]).chart.acts[k]:=szAt_get hka
  have hki:kindOf (e.procs[a]) k=((e.procs[a])[k]).kind:=by simp[kindOf,hk]
  simp (maxSteps:=1000000) +contextual -dsimp [Tryz.f33,f_l1In,hi,hx,ha,hw,q,hk,hka,hs,hki]
end Go.TM.It
namespace Go.TM.It
open Go Go.TM Go.Proofs
set_option maxRecDepth 20000
theorem idxM_any (p:Int→Bool):∀ (l:List Int) (i:Nat),leI 0 (idxM p i l)=l.any p
 | [],i=>by simp[idxM,leI]
 | x::l,i=>by
  have ih:=idxM_any p l (i+1)
  unfold idxM
  cases h:p x
  ·simp[ih,h]
  ·simp[h,leI]
theorem hasB_any (p:Int→Bool) (l:List Int):hasB p l=l.any p:=idxM_any p l 0
theorem anyV_any:∀ (l:List Int),anyV l=l.any badV
 | []=>rfl
 | x::l=>by
  unfold anyV
  rw[anyV_any l]
  cases h:badV x<;>simp[h]
theorem vars_same (l:List Int):vars4M l=varsM l:=by
 unfold vars4M varsM
 rw[anyV_any,hasB_any]
 cases eqI l.length 4<;>cases l.any badV<;>rfl
theorem any_at {l:List Int} {p:Int→Bool}:l.any p=true↔∃ i,i<l.length∧p (szAt l i)=true:=by
 rw[List.any_eq_true]
 constructor
 ·rintro⟨x,hx,hp⟩
  obtain⟨i,hi,he⟩:=List.getElem_of_mem hx
  exact⟨i,hi,by rw[szAt_get hi,he];exact hp⟩
 ·rintro⟨i,hi,hp⟩
  rw[szAt_get hi] at hp
  exact⟨_,List.getElem_mem hi,hp⟩
theorem rngs_iff (c:Chart):∀ (f i:Nat),rngs9 c f i=true↔∃ k,i≤k∧k<i+f∧rng9 c k=true
 | 0,i=>by simp[rngs9];omega
 | f+1,i=>by
  unfold rngs9
  have ih:=rngs_iff c f (i+1)
  cases h:rng9 c i
  ·simp only[Bool.false_eq_true,if_false]
   rw[ih]
   constructor
   ·rintro⟨k,h1,h2,h3⟩;exact⟨k,by omega,by omega,h3⟩
   ·rintro⟨k,h1,h2,h3⟩
    rcases Nat.lt_or_ge i k with h' | h'
    ·exact⟨k,h',by omega,h3⟩
    ·have e:k=i:=by omega
     subst e;rw[h] at h3;simp at h3
  ·simp only[if_true,true_iff]
   exact⟨i,Nat.le_refl _,by omega,h⟩
theorem some_iff (c:Chart):∀ (f i:Nat) (s:Bool),some9 c f i s=true↔s=true∨∃ k,i≤k∧k<i+f∧(szAt c.acts k≠0∨szAt c.dues k≠0)
 | 0,i,s=>by
  simp only[some9]
  constructor
  ·exact .inl
  ·rintro (h | ⟨k,h1,h2,_⟩)
   ·exact h
   ·omega
 | f+1,i,s=>by
  have ih:=some_iff c f (i+1) (some1 c i s)
  unfold some9
  rw[ih]
  have h1:some1 c i s=true↔s=true∨szAt c.acts i≠0∨szAt c.dues i≠0:=by
   simp[some1,orB,notB,eqI,or_assoc]
  rw[h1]
  constructor
  ·rintro ((h | h) | ⟨k,a,b,h⟩)
   ·exact .inl h
   ·exact .inr ⟨i,Nat.le_refl _,by omega,h⟩
   ·exact .inr ⟨k,by omega,by omega,h⟩
  ·rintro (h | ⟨k,a,b,h⟩)
   ·exact .inl (.inl h)
   ·rcases Nat.lt_or_ge i k with h' | h'
    ·exact .inr ⟨k,h',by omega,h⟩
    ·have e:k=i:=by omega
     subst e;exact .inl (.inr h)
theorem small_iff {m:Int} {l:List Int}:smS m l=false↔∃ i,i<l.length∧inR (szAt l i) 0 m=false:=by
 unfold smS
 rw[hasB_any]
 have:notB (l.any (badS m))=false↔l.any (badS m)=true:=by simp[notB]
 rw[this,any_at]
 simp[badS,notB]
theorem rng_same {c:Chart} {n:Nat} (ha:c.acts.length=n) (hd:c.dues.length=n):rngs9 c n 0=orB (notB (smS 2 c.acts)) (notB (smS (c.now+99) c.dues)):=by
 rw[Bool.eq_iff_iff,rngs_iff]
 have e1:orB (notB (smS 2 c.acts)) (notB (smS (c.now+99) c.dues))=true↔smS 2 c.acts=false∨smS (c.now+99) c.dues=false:=by simp[orB,notB]
 rw[e1,small_iff,small_iff]
 have e2:∀ k,rng9 c k=true↔inR (szAt c.acts k) 0 2=false∨inR (szAt c.dues k) 0 (c.now+99)=false:=fun k=>by simp[rng9,orB,notB]
 constructor
 ·rintro⟨k,_,h2,h3⟩
  rcases (e2 k).1 h3 with h | h
  ·exact .inl ⟨k,by omega,h⟩
  ·exact .inr ⟨k,by omega,h⟩
 ·rintro (⟨k,h2,h3⟩ | ⟨k,h2,h3⟩)
  ·exact⟨k,Nat.zero_le _,by omega,(e2 k).2 (.inl h3)⟩
  ·exact⟨k,Nat.zero_le _,by omega,(e2 k).2 (.inr h3)⟩
theorem some_same {c:Chart} {n:Nat} (ha:c.acts.length=n) (hd:c.dues.length=n):some9 c n 0 false=notB (andB (smS 0 c.acts) (smS 0 c.dues)):=by
 rw[Bool.eq_iff_iff,some_iff]
 have e1:notB (andB (smS 0 c.acts) (smS 0 c.dues))=true↔smS 0 c.acts=false∨smS 0 c.dues=false:=by
  cases smS 0 c.acts<;>cases smS 0 c.dues<;>simp[notB,andB]
 have e2:∀ x:Int,inR x 0 0=false↔x≠0:=fun x=>by
  by_cases h:x=0
  ·simp[inR,andB,leI,h]
  ·have:¬ (0≤x∧x≤0):=by omega
   simp[inR,andB,leI,h];omega
 rw[e1,small_iff,small_iff]
 simp only[e2,Bool.false_eq_true,false_or]
 constructor
 ·rintro⟨k,_,h2,h | h⟩
  ·exact .inl ⟨k,by omega,h⟩
  ·exact .inr ⟨k,by omega,h⟩
 ·rintro (⟨k,h2,h3⟩ | ⟨k,h2,h3⟩)
  ·exact⟨k,Nat.zero_le _,by omega,.inl h3⟩
  ·exact⟨k,Nat.zero_le _,by omega,.inr h3⟩
theorem cnt_pos (acts:List Int) (act:Int):∀ (l:List Int) (n:Nat),n<cntM acts act l n↔∃ k,k∈l∧szAt acts k=act
 | [],n=>by simp[cntM]
 | x::l,n=>by
  unfold cntM
  cases h:eqI (szAt acts x) act
  ·simp only[Bool.false_eq_true,if_false]
   rw[cnt_pos acts act l n]
   have hx:szAt acts x≠act:=by simpa[eqI] using h
   simp[hx]
  ·simp only[if_true]
   have hx:szAt acts x=act:=by simpa[eqI] using h
   have h1:=cnt_pos acts act l (n+1)
   have h2:n+1≤cntM acts act l (n+1):=by
    clear h1 h hx
    have:∀ (l:List Int) (m:Nat),m≤cntM acts act l m:=by
     intro l
     induction l with
     | nil=>intro m;simp[cntM]
     | cons y l ih=>
      intro m
      unfold cntM
      split
      ·have:=ih (m+1);omega
      ·exact ih m
    exact this l (n+1)
   constructor
   ·intro _;exact⟨x,by simp,hx⟩
   ·intro _;omega
theorem kids4_iff {p:Int}:∀ {l:List Step} {i:Nat} {k:Int},k∈kids4M p i l↔∃ (a:Nat) (h:a<l.length),k=(i+a:Nat)∧(l[a]).parent=p
 | [],i,k=>by simp[kids4M]
 | x::l,i,k=>by
  have ih:=kids4_iff (p:=p) (l:=l) (i:=i+1) (k:=k)
  have tl:(∃ (a:Nat) (h:a<l.length),k=(i+1+a:Nat)∧(l[a]).parent=p)↔∃ (a:Nat) (h:a<(x::l).length),k=(i+a:Nat)∧((x::l)[a]).parent=p∧0<a:=by
   constructor
   ·rintro⟨a,h,h1,h2⟩
    exact⟨a+1,by simp;omega,by omega,by simpa using h2,by omega⟩
   ·rintro⟨a,h,h1,h2,h3⟩
    cases a with
    | zero=>omega
    | succ a=>exact⟨a,by simpa using h,by omega,by simpa using h2⟩
  unfold kids4M
  cases h:eqI x.parent p
  ·simp only[Bool.false_eq_true,if_false]
   rw[ih,tl]
   constructor
   ·rintro⟨a,h,h1,h2,_⟩;exact⟨a,h,h1,h2⟩
   ·rintro⟨a,ha,h1,h2⟩
    refine⟨a,ha,h1,h2,?_⟩
    cases a with
    | zero=>simp[eqI] at h;simp at h2;exact absurd h2 h
    | succ a=>omega
  ·simp only[if_true,List.mem_cons]
   rw[ih,tl]
   constructor
   ·rintro (h1 | ⟨a,h,h1,h2,_⟩)
    ·exact⟨0,by simp,by simpa using h1,by simpa[eqI] using h⟩
    ·exact⟨a,h,h1,h2⟩
   ·rintro⟨a,ha,h1,h2⟩
    cases a with
    | zero=>exact .inl (by simpa using h1)
    | succ a=>exact .inr ⟨a+1,ha,h1,h2,by omega⟩
def onM (l:List Step) (c:Chart) (i:Nat):Nat:=cntM c.acts 1 (kids4M i 0 l) 0
def ovM (l:List Step) (c:Chart) (i:Nat):Nat:=cntM c.acts 2 (kids4M i 0 l) 0
theorem wrong_iff {l:List Step} {c:Chart} {i:Nat}:wrong9 l c i=false ↔
    (szAt c.acts i≠1∧onM l c i+ovM l c i=0∧szAt c.dues i=0)∨
    (szAt c.acts i=1∧
      (((kindOf l i = 1 ∨ kindOf l i = 3) ∧ onM l c i = 1 ∧ ovM l c i = 0 ∧ szAt c.dues i = 0) ∨
       (kindOf l i=4∧onM l c i≠0∧onM l c i+ovM l c i=(kids4M i 0 l).length∧szAt c.dues i=0)∨
       (kindOf l i=8∧onM l c i=1∧ovM l c i=0∧(szAt c.dues i≠0↔szAt c.acts (szAt (kids4M i 0 l) 0)=1))∨
       (kindOf l i=6∧szAt c.dues i≠0)∨
       (kindOf l i≠1∧kindOf l i≠3∧kindOf l i≠4∧kindOf l i≠8∧kindOf l i≠6∧kindOf l i≠7∧szAt c.dues i=0))):=by
  unfold wrong9 wrongK
  rw[show cntM c.acts 1 (kids4M i 0 l) 0=onM l c i from rfl,show cntM c.acts 2 (kids4M i 0 l) 0=ovM l c i from rfl]
  generalize onM l c i=on
  generalize ovM l c i=ov
  generalize kindOf l i=k
  generalize szAt c.acts i=ac
  generalize szAt c.dues i=du
  generalize hks:kids4M i 0 l=ks
  generalize szAt c.acts (szAt ks 0)=fa
  by_cases h1:ac=1
  · by_cases k1 : k = 1
    · simp[h1,k1,notB,eqI,orB,ltI];omega
    by_cases k3:k=3
    · simp[h1,k3,notB,eqI,orB,ltI];omega
    by_cases k4:k=4
    · simp[h1,k4,notB,eqI,orB,ltI];omega
    by_cases k8:k=8
    · by_cases d0:du=0<;>by_cases f0:fa=1<;>simp[h1,k8,notB,eqI,orB,ltI,eqB,d0,f0]<;>first | omega | (intro _ _;rw[show (du==0)=false by simp[d0],show (fa==1)=false by simp[f0]])
    by_cases k6:k=6
    · simp[h1,k6,notB,eqI,orB]
    by_cases k7:k=7
    · simp[h1,k7,notB,eqI,orB]
    · simp[h1,k1,k3,k4,k8,k6,k7,notB,eqI,orB]
  · simp[h1,notB,eqI,orB,ltI];omega
theorem fits_iff {l:List Step} {c:Chart} {i:Nat} (hk:kidsM i 0 l=kids4M i 0 l):fitsM l c i=true ↔
    ¬ (szAt c.acts i=2∧(i=0∨kindOf l (parOf l i)≠4))∧
    ((szAt c.acts i ≠ 1 ∧ onM l c i + ovM l c i = 0 ∧ szAt c.dues i = 0) ∨
     (szAt c.acts i = 1 ∧
      (((kindOf l i = 1 ∨ kindOf l i = 3) ∧ onM l c i = 1 ∧ szAt c.dues i = 0) ∨
       (kindOf l i=4∧onM l c i≠0∧onM l c i+ovM l c i=(kids4M i 0 l).length∧szAt c.dues i=0)∨
       (kindOf l i=8∧onM l c i=1∧(szAt c.dues i≠0↔szAt c.acts (szAt (kids4M i 0 l) 0)=1))∨
       (kindOf l i=6∧szAt c.dues i≠0)∨
       (kindOf l i≠1∧kindOf l i≠3∧kindOf l i≠4∧kindOf l i≠8∧kindOf l i≠6∧kindOf l i≠7∧szAt c.dues i=0)))):=by
  unfold fitsM fitsK
  rw[hk]
  rw[show cntM c.acts 1 (kids4M i 0 l) 0=onM l c i from rfl,show cntM c.acts 2 (kids4M i 0 l) 0=ovM l c i from rfl]
  generalize onM l c i=on
  generalize ovM l c i=ov
  generalize kindOf l i=k
  generalize szAt c.acts i=ac
  generalize szAt c.dues i=du
  generalize hks:kids4M i 0 l=ks
  generalize szAt c.acts (szAt ks 0)=fa
  generalize kindOf l (parOf l i)=pk
  have hb:andB (eqI ac 2) (orB (eqI i 0) (notB (eqI pk 4)))=true↔ac=2∧(i=0∨pk≠4):=by
    simp[andB,orB,notB,eqI]
  by_cases q:ac=2∧(i=0∨pk≠4)
  · rw [if_pos (hb.2 q)]
    simp[q]
  · rw [if_neg (fun h => q (hb.1 h))]
    simp only[q,not_false_eq_true,true_and]
    by_cases h1:ac=1
    · by_cases k1 : k = 1
      · by_cases o1:on=1<;>by_cases d0:du=0<;>simp[h1,k1,notB,eqI,orB,eqB,o1,d0]<;>omega
      by_cases k3:k=3
      · by_cases o1:on=1<;>by_cases d0:du=0<;>simp[h1,k3,notB,eqI,orB,eqB,o1,d0]<;>omega
      by_cases k4:k=4
      · by_cases o1:on=0<;>by_cases o2:on+ov=ks.length<;>by_cases d0:du=0<;>simp[h1,k4,notB,eqI,orB,eqB,o1,o2,d0]<;>omega
      by_cases k8:k=8
      · by_cases o1:on=1<;>by_cases d0:du=0<;>by_cases f0:fa=1<;>simp[h1,k8,notB,eqI,orB,eqB,o1,d0,f0]<;>first | omega | (rw[show (du==0)=false by simp[d0],show (fa==1)=false by simp[f0]])
      by_cases k6:k=6
      · by_cases d0:du=0<;>simp[h1,k6,notB,eqI,orB,eqB,d0]
      by_cases k7:k=7
      · simp[h1,k7,notB,eqI,orB]
      · by_cases d0:du=0<;>simp[h1,k1,k3,k4,k8,k6,k7,notB,eqI,orB,eqB,d0]
    · by_cases d0:du=0<;>simp[h1,notB,eqI,andB,d0]<;>omega
theorem wrongs_iff (l:List Step) (c:Chart):∀ (f i:Nat),wrongs9 l c f i=false↔∀ k,i≤k→k<i+f→wrong9 l c k=false
 | 0,i=>by simp[wrongs9];intro k h1 h2;omega
 | f+1,i=>by
  unfold wrongs9
  have ih:=wrongs_iff l c f (i+1)
  cases h:wrong9 l c i
  ·simp only[Bool.false_eq_true,if_false]
   rw[ih]
   constructor
   ·intro hh k h1 h2
    rcases Nat.lt_or_ge i k with h' | h'
    ·exact hh k h' (by omega)
    ·have e:k=i:=by omega
     subst e;exact h
   ·intro hh k h1 h2;exact hh k (by omega) (by omega)
  ·simp only[if_true]
   constructor
   ·intro h';simp at h'
   ·intro hh;have:=hh i (Nat.le_refl _) (by omega);rw[h] at this;simp at this
theorem allFit_iff (l:List Step) (c:Chart):∀ (f i:Nat),allFit l c f i=true↔∀ k,i≤k→k<i+f→fitsM l c k=true
 | 0,i=>by simp[allFit];intro k h1 h2;omega
 | f+1,i=>by
  unfold allFit
  have ih:=allFit_iff l c f (i+1)
  cases h:fitsM l c i
  ·simp only[Bool.false_eq_true,if_false]
   constructor
   ·intro h';simp at h'
   ·intro hh;have:=hh i (Nat.le_refl _) (by omega);rw[h] at this;simp at this
  ·simp only[if_true]
   rw[ih]
   constructor
   ·intro hh k h1 h2
    rcases Nat.lt_or_ge i k with h' | h'
    ·exact hh k h' (by omega)
    ·have e:k=i:=by omega
     subst e;exact h
   ·intro hh k h1 h2;exact hh k (by omega) (by omega)
theorem proc_kids {l:List Step} (ok:ProcOk l) (i:Nat):kidsM i 0 l=kids4M i 0 l:=kids_same l 0 fun _ s hs=>by
 have:=ok.par0 (by have:=ok.pos;omega)
 have h0:0<l.length:=by have:=ok.pos;omega
 have e:l[0]?=some l[0]:=by simp
 rw[e] at hs
 have:=Option.some.inj hs
 subst this
 omega
theorem no_kids {l:List Step} (ok:ProcOk l) {i:Nat} (hi:i<l.length) (h1:kindOf l i≠1) (h3:kindOf l i≠3) (h4:kindOf l i≠4) (h8:kindOf l i≠8):kids4M i 0 l=[]:=by
 have hc:=ok.cond i hi
 unfold condFaultM at hc
 have hcode:condCode l i=0:=by
  split at hc
  ·exact hc
  ·rename_i c
   simp[orB,notB,eqI] at c
   exact c.1
 have:=(first2_zero hcode).1
 have hb:kidB (kindOf l i)=(0,0):=by
  unfold kidB
  simp[eqI,h1,h3,h4,h8]
 rw[hb] at this
 have hn:notB (inR (kidsM i 0 l).length 0 0)=false:=by
  cases h:notB (inR (kidsM i 0 l).length 0 0)
  ·rfl
  ·rw[h] at this;simp at this
 rw[proc_kids ok] at hn
 simp[notB,inR,andB,leI] at hn
 exact List.length_eq_zero_iff.1 (by simpa using hn)
theorem fit_wrong {l:List Step} (ok:ProcOk l) {c:Chart} (h0:szAt c.acts 0=1):allFit l c l.length 0=true↔wrongs9 l c l.length 0=false:=by
 rw[allFit_iff,wrongs_iff]
 constructor
 ·intro hf k _ hk
  have hk:k<l.length:=by omega
  obtain⟨_,h2⟩:=(fits_iff (proc_kids ok k)).1 (hf k (Nat.zero_le _) (by omega))
  have hov:kindOf l k≠4→ovM l c k=0:=fun hk4=>by
   rcases Nat.eq_zero_or_pos (ovM l c k) with h | h
   ·exact h
   ·exfalso
    obtain⟨x,hx,ha⟩:=(cnt_pos _ _ _ _).1 h
    obtain⟨a,hal,rfl,hp⟩:=kids4_iff.1 hx
    rw[Nat.zero_add] at ha
    have ha0:a≠0:=fun h=>by subst h;simp at ha;rw[h0] at ha;omega
    obtain⟨h1,_⟩:=(fits_iff (proc_kids ok a)).1 (hf a (Nat.zero_le _) (by omega))
    have hpa:parOf l a=k:=by simp[parOf,hal,hp]
    exact h1 ⟨ha,.inr (by rw[hpa];exact hk4)⟩
  rw[wrong_iff]
  rcases h2 with h | ⟨ha,h⟩
  ·exact .inl h
  ·right
   refine⟨ha,?_⟩
   rcases h with⟨hk1,h⟩ | h | ⟨hk8,h⟩ | h | h
   ·exact .inl ⟨hk1,h.1,hov (by omega),h.2⟩
   ·exact .inr (.inl h)
   ·exact .inr (.inr (.inl ⟨hk8,h.1,hov (by omega),h.2⟩))
   ·exact .inr (.inr (.inr (.inl h)))
   ·exact .inr (.inr (.inr (.inr h)))
 ·intro hw k _ hk
  have hk:k<l.length:=by omega
  have h2:=wrong_iff.1 (hw k (Nat.zero_le _) (by omega))
  rw[fits_iff (proc_kids ok k)]
  refine⟨fun ⟨ha,hor⟩=>?_,?_⟩
  ·have hk0:k≠0:=fun h=>by subst h;simp at ha;rw[h0] at ha;omega
   obtain⟨a,hp,hak⟩:=ok.par k hk (by omega)
   have hal:a<l.length:=by omega
   have hmem:(k:Int)∈kids4M a 0 l:=kids4_iff.2 ⟨k,hk,by simp,hp⟩
   have hpa:parOf l k=a:=by simp[parOf,hk,hp]
   have hov:0<ovM l c a:=(cnt_pos _ _ _ _).2 ⟨k,hmem,ha⟩
   have hw2:=wrong_iff.1 (hw a (Nat.zero_le _) (by omega))
   rw[hpa] at hor
   have hnk:∀ h:kids4M a 0 l=[],False:=fun h=>by rw[h] at hmem;simp at hmem
   rcases hw2 with h | ⟨_,⟨_,h⟩ | h | ⟨_,h⟩ | h | h⟩
   ·omega
   ·omega
   ·rcases hor with h' | h'
    ·omega
    ·exact h' h.1
   ·omega
   ·exact hnk (no_kids ok hal (by omega) (by omega) (by omega) (by omega))
   ·exact hnk (no_kids ok hal h.1 h.2.1 h.2.2.1 h.2.2.2.1)
  ·rcases h2 with h | ⟨ha,h⟩
   ·exact .inl h
   ·right
    refine⟨ha,?_⟩
    rcases h with⟨hk1,h⟩ | h | ⟨hk8,h⟩ | h | h
    ·exact .inl ⟨hk1,h.1,h.2.2⟩
    ·exact .inr (.inl h)
    ·exact .inr (.inr (.inl ⟨hk8,h.1,h.2.2⟩))
    ·exact .inr (.inr (.inr (.inl h)))
    ·exact .inr (.inr (.inr (.inr h)))
theorem chart_same (l:List Step) (c:Chart):fault9 l c=chartM l c:=by
 have hq:¬ (notB (eqI (0:Int) 0)=true):=by simp[notB,eqI]
 have hff:¬ (false=true):=by simp
 unfold fault9 chartM chartA
 rw[fault_same,vars_same]
 by_cases h1:procM l=0
 ·have ok:=proc_ok h1
  rw[h1,if_neg hq]
  cases q2:orB (notB (inR c.status 1 3)) (notB (inR c.now 0 1000000))
  ·rw[if_neg hff]
   by_cases h3:varsM c.vars=0
   ·rw[h3,if_neg hq]
    cases q4:orB (notB (eqI c.acts.length l.length)) (notB (eqI c.dues.length l.length))
    ·have hl:c.acts.length=l.length∧c.dues.length=l.length:=by
      simp[orB,notB,eqI] at q4;omega
     have e0:first2 0 (first2 (ci false 3) (first2 0 (ci false 2)))=0:=by rfl
     rw[if_neg hff,rng_same hl.1 hl.2,some_same hl.1 hl.2,e0,if_neg hq]
     cases orB (notB (smS 2 c.acts)) (notB (smS (c.now+99) c.dues))
     ·rw[if_neg hff,if_neg hff]
      unfold ordM
      by_cases h5:c.status=1
      ·have hs:¬ (notB (eqI c.status 1)=true):=by simp[notB,eqI,h5]
       rw[if_neg hs,if_neg hs]
       by_cases h6:szAt c.acts 0=1
       ·have hs2:¬ (notB (eqI (szAt c.acts 0) 1)=true):=by simp[notB,eqI,h6]
        have hs3:eqI (szAt c.acts 0) 1=true:=by simp[eqI,h6]
        rw[if_neg hs2,hs3]
        have hfw:=fit_wrong ok h6
        cases q6:wrongs9 l c l.length 0
        ·rw[hfw.2 q6];rfl
        ·cases q7:allFit l c l.length 0
         ·rfl
         ·rw[hfw.1 q7] at q6;simp at q6
       ·have hs2:notB (eqI (szAt c.acts 0) 1)=true:=by simp[notB,eqI,h6]
        have:eqI (szAt c.acts 0) 1=false:=by simp[eqI,h6]
        rw[if_pos hs2,this]
        cases allFit l c l.length 0<;>rfl
      ·have hs:notB (eqI c.status 1)=true:=by simp[notB,eqI,h5]
       rw[if_pos hs,if_pos hs]
       cases andB (smS 0 c.acts) (smS 0 c.dues)<;>rfl
     ·rfl
    ·rfl
   ·have e1:first2 0 (first2 (ci false 3) (first2 (varsM c.vars) (ci (orB (notB (eqI c.acts.length l.length)) (notB (eqI c.dues.length l.length))) 2)))=varsM c.vars:=by
     have:eqI (varsM c.vars) 0=false:=by simp[eqI,h3]
     simp[first2,ci,eqI_self,this]
    have hs:notB (eqI (varsM c.vars) 0)=true:=by simp[notB,eqI,h3]
    rw[e1,if_pos hs,if_pos hs]
  ·have e1:first2 0 (first2 (ci true 3) (first2 (varsM c.vars) (ci (orB (notB (eqI c.acts.length l.length)) (notB (eqI c.dues.length l.length))) 2)))=3:=by rfl
   rw[e1];rfl
 ·have e1:∀ b,first2 (procM l) b=procM l:=fun b=>by
   have:eqI (procM l) 0=false:=by simp[eqI,h1]
   simp[first2,this]
  have hs:notB (eqI (procM l) 0)=true:=by simp[notB,eqI,h1]
  rw[e1,if_pos hs,if_pos hs]
attribute [local congr] gif_cg
attribute [local simp] footOf noClash clash upsets setsHit setHits layHits layMeets setsMeet evFeet
theorem inst_same (e:Engine) (x:Inst):inst4M e x=instM e x:=by
 unfold inst4M instM instCode
 rw[chart_same]
 cases inR x.proc 0 ((e.procs.length:Int) - 1)
 ·rfl
 ·by_cases h:chartM (stepsOf e x) x.chart=0
  ·rw[h]
   cases eqI x.chart.now e.now<;>rfl
  ·have:eqI (chartM (stepsOf e x) x.chart) 0=false:=by simp[eqI,h]
   simp[notB,first2,this]
theorem insts_same (e:Engine):∀ l,insts4M e l=instsM e l
 | []=>rfl
 | x::l=>by
  unfold insts4M instsM
  rw[inst_same,insts_same e l]
theorem procs_same:∀ l,procs4M l=procsM l
 | []=>rfl
 | x::l=>by
  unfold procs4M procsM
  rw[fault_same,procs_same l]
theorem procsF_same (l:List (List Step)):procs4F l=procsF l:=by
 unfold procs4F procsF
 rw[procs_same]
 by_cases h:1≤l.length∧l.length≤3
 ·rw[if_neg (by simp[orB,ltI];omega),if_neg (by simp[notB,inR,andB,leI];omega)]
 ·rw[if_pos (by simp[orB,ltI];omega),if_pos (by simp[notB,inR,andB,leI];omega)]
theorem eng_same (e:Engine):eng4M e=engM e:=by
 unfold eng4M engM engA
 rw[insts_same,procsF_same]
 cases q1:ltI 6 e.insts.length
 ·by_cases q2:procsF e.procs=0
  ·have q3:inR e.procs.length 1 3=true:=by
    unfold procsF at q2
    split at q2
    ·simp at q2
    ·rename_i c;simpa[notB] using c
   rw[q2,q3]
   cases inR e.now 0 1000000<;>rfl
  ·have e0:eqI (procsF e.procs) 0=false:=by simp[eqI,q2]
   have e1:first2 (procsF e.procs) (ci (notB (inR e.now 0 1000000)) 3)=procsF e.procs:=by simp[first2,e0]
   rw[e1,e0]
   cases q3:inR e.procs.length 1 3
   ·unfold procsF;rw[q3];rfl
   ·rfl
 ·cases inR e.procs.length 1 3<;>rfl
theorem ahead_cmp (a b:Claim):leI 0 (cmpC a b)=notB (aheadM a b):=by
 unfold cmpC aheadM cmpI first2
 rcases Int.lt_trichotomy a.inst b.inst with h | h | h
 ·simp[ltI,h,eqI,leI,notB,orB]
 ·rcases Int.lt_trichotomy a.step b.step with h2 | h2 | h2
  ·simp[ltI,h,h2,eqI,leI,notB,orB,andB]
  ·simp[ltI,h,h2,eqI,leI,notB,orB,andB]
  ·have:¬ a.step<b.step:=by omega
   simp[ltI,h,h2,this,eqI,leI,notB,orB,andB]
 ·have h1:¬ a.inst<b.inst:=by omega
  have h2:¬ a.inst=b.inst:=by omega
  simp[ltI,h,h1,h2,eqI,leI,notB,orB,andB]
theorem lp21 (d:Desk) (hf:FitE d.eng) (h0:engM d.eng=0) (hcl:d.claims.length≤60):∀ (rest:List Claim) (i:Nat),d.claims.drop i=rest→
    evLoop E (orc E) (15:Nat) (rest.length+1) (loopOf Tryz.f15 0) ⟨76,[(0,.ipt (dT d)),(4,vI i)],[],2⟩=
    (if eqI (claimsM d i rest) 0 = true then some (.exit 0, ⟨76, [(0, .ipt (dT d)), (4, vI (i + rest.length : Nat)), (25, vB false)], [], 2⟩)
     else some (.ret,⟨76,[(2,vI (claimsM d i rest))],[],2⟩))
  | [],i,h=>by
    have hge:d.claims.length≤i:=by simpa using h
    have hlt:ltI (i:Int) (d.claims.length:Int)=false:=ltI_f (by omega)
    rw[loop_eq]
    simp +contextual -dsimp [Tryz.f15,hlt,claimsM,eqI_self]
  | x::rest,i,h=>by
    obtain⟨hi,hc,hr⟩:=drop_cons h
    obtain⟨n1,n2,n3⟩:=engM_zero h0
    have hlt:ltI (i:Int) (d.claims.length:Int)=true:=ltI_t (by omega)
    have hw:IntKind.i64.wrap ((i:Int)+1)=((i+1:Nat):Int):=by rw[wrapI]<;>omega
    have hwi:IntKind.i64.wrap ((d.eng.insts.length:Int) - 1)=(d.eng.insts.length:Int) - 1:=by rw[wrapI]<;>omega
    have he:i+1+rest.length=i+(rest.length+1):=by omega
    have out:∀ k:Int,claimM d i x=k→eqI k 0=false→claimsM d i (x::rest)=k:=fun k h1 h2=>by simp[claimsM,h1,h2]
    cases q1:inR x.inst 0 ((d.eng.insts.length:Int) - 1)
    · have h3 : claimM d i x = 3 := by simp [claimM, q1, notB, orB]
      have hm:=out 3 h3 rfl
      have h30:eqI (3:Int) 0=false:=rfl
      rw[hm,h30,if_neg (by simp)]
      refine evLoop_out ?_ (by simp)
      simp (maxSteps:=1000000) +contextual -dsimp [Tryz.f15,hlt,hi,hc,hwi,f_l1In,q1,List.set]
    cases q2:inR x.user 1 9
    · have h3 : claimM d i x = 3 := by simp [claimM, q1, q2, notB, orB]
      have hm:=out 3 h3 rfl
      have h30:eqI (3:Int) 0=false:=rfl
      rw[hm,h30,if_neg (by simp)]
      refine evLoop_out ?_ (by simp)
      simp (maxSteps:=1000000) +contextual -dsimp [Tryz.f15,hlt,hi,hc,hwi,f_l1In,f_l12User,q1,q2,List.set]
    obtain⟨b,hb,hbl⟩:∃ b:Nat,x.inst=b∧b<d.eng.insts.length:=by
      simp[inR,andB,leI] at q1
      obtain⟨k,hk⟩:=Int.eq_ofNat_of_zero_le q1.1
      exact⟨k,hk,by omega⟩
    obtain⟨a,ha,hx,e2,ok,hlen⟩:=(n3 (d.eng.insts[b]) (List.getElem_mem _)).at_
    have g1:=f_l12Open d.eng [.sl 68 (d.claims.map kT)] b hbl a hx ha (by have:=ok.le;omega) hlen x.step
    rw[←hb] at g1
    have g2:=f_l12Ahead (clAt d.claims (i - 1)) x
    cases q3:isOpenM d.eng x.inst x.step
    · have h3 : claimM d i x = 4 := by simp [claimM, q1, q2, q3, notB, orB]
      have hm:=out 4 h3 rfl
      have h30:eqI (4:Int) 0=false:=rfl
      rw[hm,h30,if_neg (by simp)]
      refine evLoop_out ?_ (by simp)
      simp (maxSteps:=1000000) +contextual -dsimp [Tryz.f15,hlt,hi,hc,hwi,f_l1In,f_l12User,g1,q1,q2,q3,List.set]
    rcases Nat.eq_zero_or_pos i with hi0 | hi0
    · have hl0 : ltI 0 (i : Int) = false := ltI_f (by omega)
      have h3:claimM d i x=0:=by simp[claimM,q1,q2,q3,hl0,notB,orB,andB]
      have ih:=lp21 d hf h0 hcl rest (i+1) hr
      rw[he] at ih
      have hm:claimsM d i (x::rest)=claimsM d (i+1) rest:=by simp[claimsM,h3,eqI_self]
      rw[hm]
      refine evLoop_next ?_ (by simpa only[List.length_cons] using ih)
      simp (maxSteps:=1000000) +contextual -dsimp [Tryz.f15,hlt,hi,hc,hw,hwi,f_l1In,f_l12User,g1,q1,q2,q3,hl0,List.set]
    · have hl0 : ltI 0 (i : Int) = true := ltI_t (by omega)
      have hi1:i - 1<d.claims.length:=by omega
      have hw1:IntKind.i64.wrap ((i:Int) - 1)=((i - 1:Nat):Int):=by rw[wrapI]<;>omega
      have hcl1:clAt d.claims (i - 1)=d.claims[i - 1]:=by simp[clAt,hi1]
      rw[hcl1] at g2
      cases q4:aheadM (d.claims[i - 1]) x
      · have h3 : claimM d i x = 1 := by simp [claimM, q1, q2, q3, hl0, hcl1, ahead_cmp, q4, notB, orB, andB]
        have hm:=out 1 h3 rfl
        have h30:eqI (1:Int) 0=false:=rfl
        rw[hm,h30,if_neg (by simp)]
        refine evLoop_out ?_ (by simp)
        simp (maxSteps:=1000000) +contextual -dsimp [Tryz.f15,hlt,hi,hc,hwi,f_l1In,f_l12User,g1,g2,q1,q2,q3,q4,hl0,hi1,hw1,List.set]
      · have h3 : claimM d i x = 0 := by simp [claimM, q1, q2, q3, hl0, hcl1, ahead_cmp, q4, notB, orB, andB]
        have ih:=lp21 d hf h0 hcl rest (i+1) hr
        rw[he] at ih
        have hm:claimsM d i (x::rest)=claimsM d (i+1) rest:=by simp[claimsM,h3,eqI_self]
        rw[hm]
        refine evLoop_next ?_ (by simpa only[List.length_cons] using ih)
        simp (maxSteps:=1000000) +contextual -dsimp [Tryz.f15,hlt,hi,hc,hw,hwi,f_l1In,f_l12User,g1,g2,q1,q2,q3,q4,hl0,hi1,hw1,List.set]
theorem f_l12Fault (d:Desk) (hf:FitE d.eng) (hc:d.claims.length<2 ^ 62):fo 15 [A (.ipt (dT d))]=some (R (vI (deskM d))):=by
 have g1:=f_l11Fault d.eng [.sl 68 (d.claims.map kT)] hf
 rw[eng_same] at g1
 unfold deskM deskA
 refine orc_15 (d.claims.length+1) ?_
 cases q1:eqI (engM d.eng) 0
 ·simp (maxSteps:=1000000) +contextual -dsimp [Tryz.f15,g1,q1,first2]
 ·have e0:engM d.eng=0:=by simpa[eqI] using q1
  cases q2:ltI 60 d.claims.length
  ·have hlp:=lp21 d hf e0 (by simp[ltI] at q2;omega) d.claims 0 rfl
   simp -dsimp [Tryz.f15] at hlp
   cases q4:eqI (claimsM d 0 d.claims) 0
   ·rw[q4] at hlp
    simp (maxSteps:=1000000) +contextual -dsimp [Tryz.f15,g1,e0,q2,eqI_self,first2,ci,hlp]
   ·rw[q4] at hlp
    have e1:claimsM d 0 d.claims=0:=by simpa[eqI] using q4
    simp (maxSteps:=1000000) +contextual -dsimp [Tryz.f15,g1,e0,q2,e1,eqI_self,first2,ci,hlp]
  ·have h20:eqI (2:Int) 0=false:=rfl
   simp (maxSteps:=1000000) +contextual -dsimp [Tryz.f15,g1,e0,q2,eqI_self,first2,ci,h20]
end Go.TM.It
namespace Go.TM.It
open Go Go.TM Go.Proofs
abbrev eTl (e:Engine):List T:=[.sl 103 (e.procs.map (pT 152 211)),.sl 107 (e.insts.map xT),vI e.now]
abbrev dTl (d:Desk):List T:=[.sl 103 (d.eng.procs.map (pT 152 211)),.sl 107 (d.eng.insts.map xT),vI d.eng.now,.sl 88 (d.claims.map kT)]
end Go.TM.It
