/- What functions of the program come to, by the machine. -/
import Derived.Test.YtldklhcklkaplaaGreatDoorTL4
set_option linter.unusedSimpArgs false
set_option linter.unusedVariables false
set_option maxHeartbeats 4000000
namespace Go.TM.It
open Go Go.TM Go.Proofs
set_option maxRecDepth 20000
attribute [local congr] gif_cg
attribute [local simp] footOf noClash clash upsets setsHit setHits layHits layMeets setsMeet evFeet
def instCode (e:Engine) (x:Inst):Int:=first2 (chartM (stepsOf e x) x.chart) (ci (notB (eqI x.chart.now e.now)) 9)
def instM (e:Engine) (x:Inst):Int:=if notB (inR x.proc 0 ((e.procs.length:Int) - 1))=true then 3 else instCode e x
def instsM (e:Engine):List Inst→Int
 | []=>0
 | x::r=>if eqI (instM e x) 0=true then instsM e r else instM e x
structure FitE (e:Engine):Prop where
 np:e.procs.length<2 ^ 62
 ni:e.insts.length<2 ^ 62
 procs:∀ p,p∈e.procs→FitP p
 insts:∀ x,x∈e.insts→FitC x.chart
theorem loop47 (e:Engine) (hf:FitE e):∀ (rest:List Inst) (i:Nat),e.insts.drop i=rest→
    evLoop E (orc E) (41:Nat) (rest.length+1) (loopOf Tryz.f41 0) ⟨64,[(1,.ptr 1 1 [] 0),(32,.sl 77 (e.insts.map xT)),(33,vI e.insts.length),(34,vI i)],[(1,⟨1,1,true,eT e⟩)],2⟩=
    (if eqI (instsM e rest) 0 = true then some (.exit 0, ⟨64, [(1, .ptr 1 1 [] 0), (32, .sl 77 (e.insts.map xT)), (33, vI e.insts.length), (34, vI (i + rest.length : Nat)), (35, vB false)], [(1, ⟨1, 1, true, eT e⟩)], 2⟩)
     else some (.ret,⟨64,[(2,vI (instsM e rest))],[],2⟩))
  | [],i,h=>by
    have hge:e.insts.length≤i:=by simpa using h
    have hlt:ltI (i:Int) (e.insts.length:Int)=false:=ltI_f (by omega)
    rw[loop_eq]
    simp +contextual -dsimp [Tryz.f41,hlt,instsM,eqI_self]
  | x::rest,i,h=>by
    obtain⟨hi,hc,hr⟩:=drop_cons h
    have hni:=hf.ni
    have hlt:ltI (i:Int) (e.insts.length:Int)=true:=ltI_t (by omega)
    have hw:IntKind.i64.wrap ((i:Int)+1)=((i+1:Nat):Int):=by rw[wrapI]<;>omega
    have he:i+1+rest.length=i+(rest.length+1):=by omega
    have g0:=f_isPlace x.proc e.procs.length hf.np
    have hxc:=hf.insts x (by rw[←hc];exact List.getElem_mem _)
    cases q1:inR x.proc 0 ((e.procs.length:Int) - 1)
    · have h3 : instM e x = 3 := by simp [instM, q1, notB]
      have h30:eqI (3:Int) 0=false:=rfl
      have hm:instsM e (x::rest)=3:=by simp[instsM,h3,h30]
      rw[hm,h30,if_neg (by simp)]
      refine evLoop_out ?_ (by simp)
      simp (maxSteps:=1000000) +contextual -dsimp [Tryz.f41,hlt,hi,hc,g0,q1,List.set]
    · obtain ⟨a, hx, ha⟩ : ∃ a : Nat, x.proc = a ∧ a < e.procs.length := by
        simp[inR,andB,leI] at q1
        obtain⟨k,hk⟩:=Int.eq_ofNat_of_zero_le q1.1
        exact⟨k,hk,by omega⟩
      have h3:instM e x=instCode e x:=by simp[instM,q1,notB]
      have hp:=hf.procs (e.procs[a]) (List.getElem_mem _)
      have g1:=f_steps e x a hx ha
      have e2:stepsOf e x=e.procs[a]:=by simp[stepsOf,hx,ha]
      have g2:=f_ChartFault (e.procs[a]) hp.len hp.steps x.chart hxc
      have g3:=f_first2 (chartM (e.procs[a]) x.chart) (ci (notB (eqI x.chart.now e.now)) 9)
      cases q2:eqI (instCode e x) 0
      · have hm : instsM e (x :: rest) = instCode e x := by simp [instsM, h3, q2]
        rw[hm,q2,if_neg (by simp)]
        unfold instCode at q2 ⊢
        rw[e2] at q2 ⊢
        refine evLoop_out ?_ (by simp)
        simp (maxSteps:=1000000) +contextual -dsimp [Tryz.f41,hlt,hi,hc,g0,g1,g2,g3,f_ci,q1,q2,List.set]
      · have ih := loop47 e hf rest (i + 1) hr
        rw[he] at ih
        have hm:instsM e (x::rest)=instsM e rest:=by simp[instsM,h3,q2]
        rw[hm]
        unfold instCode at q2
        rw[e2] at q2
        refine evLoop_next ?_ (by simpa only[List.length_cons] using ih)
        simp (maxSteps:=1000000) +contextual -dsimp [Tryz.f41,hlt,hi,hc,hw,g0,g1,g2,g3,f_ci,q1,q2,List.set]
def engA (e:Engine):Int:=first2 (procsF e.procs) (ci (notB (inR e.now 0 1000000)) 3)
def engM (e:Engine):Int:=
 if orB (notB (inR e.procs.length 1 3)) (ltI 6 e.insts.length)=true then 2
 else if notB (eqI (engA e) 0)=true then engA e
 else instsM e e.insts
theorem f_EngineFault (e:Engine) (hf:FitE e):fo 41 [A (.agg (eT e))]=some (R (vI (engM e))):=by
 have g1:=f_procsFault e.procs hf.np hf.procs
 have g3:=f_first2 (procsF e.procs) (ci (notB (inR e.now 0 1000000)) 3)
 have hlp:=loop47 e hf e.insts 0 rfl
 simp -dsimp [Tryz.f41] at hlp
 unfold engM
 refine orc_41 (e.insts.length+1) ?_
 cases q1:inR e.procs.length 1 3
 ·simp (maxSteps:=1000000) +contextual -dsimp [Tryz.f41,f_inRange,q1]
 ·cases q2:ltI 6 e.insts.length
  ·cases q3:eqI (engA e) 0
   ·unfold engA at q3 ⊢
    simp (maxSteps:=1000000) +contextual -dsimp [Tryz.f41,f_inRange,f_isTime,f_ci,g1,g3,q1,q2,q3,List.set]
   ·have q3':=q3
    unfold engA at q3'
    cases q4:eqI (instsM e e.insts) 0
    ·rw[q4] at hlp
     simp (maxSteps:=1000000) +contextual -dsimp [Tryz.f41,f_inRange,f_isTime,f_ci,g1,g3,q1,q2,q3',hlp,List.set]
    ·rw[q4] at hlp
     have e0:instsM e e.insts=0:=by simpa[eqI] using q4
     simp (maxSteps:=1000000) +contextual -dsimp [Tryz.f41,f_inRange,f_isTime,f_ci,g1,g3,q1,q2,q3',e0,hlp,List.set]
  ·simp (maxSteps:=1000000) +contextual -dsimp [Tryz.f41,f_inRange,q1,q2]
abbrev dT (d:Desk):List T:=[.sl 82 (d.eng.procs.map (pT 112 206)),.sl 77 (d.eng.insts.map xT),vI d.eng.now,.sl 68 (d.claims.map kT)]
structure InstOk (e:Engine) (x:Inst):Prop where
 ex:∃ (a:Nat) (_:a<e.procs.length),x.proc=a
 chart:chartM (stepsOf e x) x.chart=0
theorem instM_zero {e:Engine} {x:Inst} (h:instM e x=0):InstOk e x:=by
 unfold instM at h
 split at h
 ·simp at h
 ·rename_i c
  have c:inR x.proc 0 ((e.procs.length:Int) - 1)=true:=by simpa[notB] using c
  refine⟨?_,(first2_zero h).1⟩
  simp[inR,andB,leI] at c
  obtain⟨k,hk⟩:=Int.eq_ofNat_of_zero_le c.1
  exact⟨k,by omega,hk⟩
theorem instsM_zero {e:Engine}:∀ {l:List Inst},instsM e l=0→∀ x,x∈l→InstOk e x
 | [],_,x,hx=>by simp at hx
 | y::l,h,x,hx=>by
  unfold instsM at h
  split at h
  ·rename_i c
   rcases List.mem_cons.1 hx with rfl | hx
   ·exact instM_zero (by simpa[eqI] using c)
   ·exact instsM_zero h x hx
  ·rename_i c;rw[h] at c;exact absurd rfl c
theorem engM_zero {e:Engine} (h:engM e=0):e.procs.length≤3∧e.insts.length≤6∧(∀ x,x∈e.insts→InstOk e x):=by
 unfold engM at h
 split at h
 ·simp at h
 ·rename_i c
  split at h
  ·rename_i c2;rw[h] at c2;simp[notB,eqI] at c2
  ·simp[orB,notB,inR,andB,leI,ltI] at c
   exact⟨by omega,by omega,instsM_zero h⟩
theorem chartM_zero {l:List Step} {c:Chart} (h:chartM l c=0):chartA l c=0:=by
 unfold chartM at h
 split at h
 ·exact h
 ·rename_i c;simpa[notB,eqI] using c
theorem InstOk.at_ {e:Engine} {x:Inst} (h:InstOk e x):∃ (a:Nat) (ha:a<e.procs.length),x.proc=a∧stepsOf e x=e.procs[a]∧ProcOk (e.procs[a])∧x.chart.acts.length=(e.procs[a]).length:=by
 obtain⟨⟨a,ha,hx⟩,hc⟩:=h
 have e2:stepsOf e x=e.procs[a]:=by simp[stepsOf,hx,ha]
 rw[e2] at hc
 obtain⟨z1,_,_,_,z5,_⟩:=chartA_zero (chartM_zero hc)
 exact⟨a,ha,hx,e2,proc_ok z1,z5⟩
def cmpC (a b:Claim):Int:=first2 (cmpI a.inst b.inst) (cmpI a.step b.step)
theorem f_cmpC (a b:Claim):fo 44 [A (.agg (kT a)),A (.agg (kT b))]=some (R (vI (cmpC a b))):=f_compareClaims a b
def clAt (l:List Claim) (k:Nat):Claim:=l.getD k ⟨0,0,0⟩
def claimM (d:Desk) (i:Nat) (c:Claim):Int:=
 if orB (notB (inR c.inst 0 ((d.eng.insts.length:Int) - 1))) (notB (inR c.user 1 9))=true then 3
 else if notB (isOpenM d.eng c.inst c.step)=true then 4
 else if andB (ltI 0 (i:Int)) (leI 0 (cmpC (clAt d.claims (i - 1)) c))=true then 1 else 0
def claimsM (d:Desk):Nat→List Claim→Int
 | _,[]=>0
 | i,c::r=>if eqI (claimM d i c) 0=true then claimsM d (i+1) r else claimM d i c
theorem loop25 (d:Desk) (hf:FitE d.eng) (h0:engM d.eng=0) (hcl:d.claims.length≤60):∀ (rest:List Claim) (i:Nat),d.claims.drop i=rest→
    evLoop E (orc E) (21:Nat) (rest.length+1) (loopOf Tryz.f21 0) ⟨66,[(1,.ptr 1 1 [] 0),(20,.sl 68 (d.claims.map kT)),(21,vI d.claims.length),(22,vI i)],[(1,⟨1,1,true,dT d⟩)],2⟩=
    (if eqI (claimsM d i rest) 0 = true then some (.exit 0, ⟨66, [(1, .ptr 1 1 [] 0), (20, .sl 68 (d.claims.map kT)), (21, vI d.claims.length), (22, vI (i + rest.length : Nat)), (23, vB false)], [(1, ⟨1, 1, true, dT d⟩)], 2⟩)
     else some (.ret,⟨66,[(2,vI (claimsM d i rest))],[],2⟩))
  | [],i,h=>by
    have hge:d.claims.length≤i:=by simpa using h
    have hlt:ltI (i:Int) (d.claims.length:Int)=false:=ltI_f (by omega)
    rw[loop_eq]
    simp +contextual -dsimp [Tryz.f21,hlt,claimsM,eqI_self]
  | x::rest,i,h=>by
    obtain⟨hi,hc,hr⟩:=drop_cons h
    obtain⟨n1,n2,n3⟩:=engM_zero h0
    have hlt:ltI (i:Int) (d.claims.length:Int)=true:=ltI_t (by omega)
    have hw:IntKind.i64.wrap ((i:Int)+1)=((i+1:Nat):Int):=by rw[wrapI]<;>omega
    have he:i+1+rest.length=i+(rest.length+1):=by omega
    have g0:=f_isPlace x.inst d.eng.insts.length (by omega)
    have out:∀ k:Int,claimM d i x=k→eqI k 0=false→claimsM d i (x::rest)=k:=fun k h1 h2=>by simp[claimsM,h1,h2]
    have hE:eT d.eng=[.sl 82 (d.eng.procs.map (pT 112 206)),.sl 77 (d.eng.insts.map xT),vI d.eng.now]:=rfl
    cases q1:inR x.inst 0 ((d.eng.insts.length:Int) - 1)
    · have h3 : claimM d i x = 3 := by simp [claimM, q1, notB, orB]
      have hm:=out 3 h3 rfl
      have h30:eqI (3:Int) 0=false:=rfl
      rw[hm,h30,if_neg (by simp)]
      refine evLoop_out ?_ (by simp)
      simp (maxSteps:=1000000) +contextual -dsimp [Tryz.f21,hlt,hi,hc,g0,q1,List.set]
    cases q2:inR x.user 1 9
    · have h3 : claimM d i x = 3 := by simp [claimM, q1, q2, notB, orB]
      have hm:=out 3 h3 rfl
      have h30:eqI (3:Int) 0=false:=rfl
      rw[hm,h30,if_neg (by simp)]
      refine evLoop_out ?_ (by simp)
      simp (maxSteps:=1000000) +contextual -dsimp [Tryz.f21,hlt,hi,hc,g0,f_isUser,q1,q2,List.set]
    obtain⟨b,hb,hbl⟩:∃ b:Nat,x.inst=b∧b<d.eng.insts.length:=by
      simp[inR,andB,leI] at q1
      obtain⟨k,hk⟩:=Int.eq_ofNat_of_zero_le q1.1
      exact⟨k,hk,by omega⟩
    obtain⟨a,ha,hx,e2,ok,hlen⟩:=(n3 (d.eng.insts[b]) (List.getElem_mem _)).at_
    have g1:=f_isOpen d.eng b hbl a hx ha (by have:=ok.le;omega) hlen x.step
    rw[←hb] at g1
    have g2:=f_cmpC (clAt d.claims (i - 1)) x
    cases q3:isOpenM d.eng x.inst x.step
    · have h3 : claimM d i x = 4 := by simp [claimM, q1, q2, q3, notB, orB]
      have hm:=out 4 h3 rfl
      have h30:eqI (4:Int) 0=false:=rfl
      rw[hm,h30,if_neg (by simp)]
      refine evLoop_out ?_ (by simp)
      simp (maxSteps:=1000000) +contextual -dsimp [Tryz.f21,hlt,hi,hc,g0,g1,f_isUser,q1,q2,q3,List.set]
    rcases Nat.eq_zero_or_pos i with hi0 | hi0
    · have hl0 : ltI 0 (i : Int) = false := ltI_f (by omega)
      have h3:claimM d i x=0:=by simp[claimM,q1,q2,q3,hl0,notB,orB,andB]
      have ih:=loop25 d hf h0 hcl rest (i+1) hr
      rw[he] at ih
      have hm:claimsM d i (x::rest)=claimsM d (i+1) rest:=by simp[claimsM,h3,eqI_self]
      rw[hm]
      refine evLoop_next ?_ (by simpa only[List.length_cons] using ih)
      simp (maxSteps:=1000000) +contextual -dsimp [Tryz.f21,hlt,hi,hc,hw,g0,g1,f_isUser,q1,q2,q3,hl0,List.set]
    · have hl0 : ltI 0 (i : Int) = true := ltI_t (by omega)
      have hi1:i - 1<d.claims.length:=by omega
      have hw1:IntKind.i64.wrap ((i:Int) - 1)=((i - 1:Nat):Int):=by rw[wrapI]<;>omega
      have hcl1:clAt d.claims (i - 1)=d.claims[i - 1]:=by simp[clAt,hi1]
      rw[hcl1] at g2
      cases q4:leI 0 (cmpC (d.claims[i - 1]) x)
      · have h3 : claimM d i x = 0 := by simp [claimM, q1, q2, q3, hl0, hcl1, q4, notB, orB, andB]
        have ih:=loop25 d hf h0 hcl rest (i+1) hr
        rw[he] at ih
        have hm:claimsM d i (x::rest)=claimsM d (i+1) rest:=by simp[claimsM,h3,eqI_self]
        rw[hm]
        refine evLoop_next ?_ (by simpa only[List.length_cons] using ih)
        simp (maxSteps:=1000000) +contextual -dsimp [Tryz.f21,hlt,hi,hc,hw,g0,g1,g2,f_isUser,q1,q2,q3,q4,hl0,hi1,hw1,List.set]
      · have h3 : claimM d i x = 1 := by simp [claimM, q1, q2, q3, hl0, hcl1, q4, notB, orB, andB]
        have hm:=out 1 h3 rfl
        have h30:eqI (1:Int) 0=false:=rfl
        rw[hm,h30,if_neg (by simp)]
        refine evLoop_out ?_ (by simp)
        simp (maxSteps:=1000000) +contextual -dsimp [Tryz.f21,hlt,hi,hc,g0,g1,g2,f_isUser,q1,q2,q3,q4,hl0,hi1,hw1,List.set]
def deskA (d:Desk):Int:=first2 (engM d.eng) (ci (ltI 60 d.claims.length) 2)
def deskM (d:Desk):Int:=if notB (eqI (deskA d) 0)=true then deskA d else claimsM d 0 d.claims
theorem f_DeskFault (d:Desk) (hf:FitE d.eng) (hc:d.claims.length<2 ^ 62):fo 21 [A (.agg (dT d))]=some (R (vI (deskM d))):=by
 have g1:=f_EngineFault d.eng hf
 have g3:=f_first2 (engM d.eng) (ci (ltI 60 d.claims.length) 2)
 unfold deskM
 refine orc_21 (d.claims.length+1) ?_
 cases q1:eqI (deskA d) 0
 ·unfold deskA at q1 ⊢
  simp (maxSteps:=1000000) +contextual -dsimp [Tryz.f21,f_ci,g1,g3,q1,List.set]
 ·have e0:deskA d=0:=by simpa[eqI] using q1
  have z:=first2_zero e0
  have z2:=ci_zero (by omega) z.2
  have hlp:=loop25 d hf z.1 (by simp[ltI] at z2;omega) d.claims 0 rfl
  simp -dsimp [Tryz.f21] at hlp
  have q1':=q1
  unfold deskA at q1'
  cases q4:eqI (claimsM d 0 d.claims) 0
  ·rw[q4] at hlp
   simp (maxSteps:=1000000) +contextual -dsimp [Tryz.f21,f_ci,g1,g3,q1',hlp,List.set]
  ·rw[q4] at hlp
   have e1:claimsM d 0 d.claims=0:=by simpa[eqI] using q4
   simp (maxSteps:=1000000) +contextual -dsimp [Tryz.f21,f_ci,g1,g3,q1',e1,hlp,List.set]
theorem opens_few (acts:List Int):∀ (l:List Step) (i:Nat),(opensM acts i l).length≤l.length
 | [],_=>Nat.le_refl _
 | s::l,i=>by
  have:=opens_few acts l (i+1)
  unfold opensM
  split
  ·simp;omega
  ·simp;omega
end Go.TM.It
namespace Go.TM.It
theorem node_same (n:Node) (i:Int):l3NodeM n i=nodeFaultM n i:=by
 unfold l3NodeM nodeFaultM first2
 by_cases h1:n.kind=1
 ·simp only[h1];simp (config:={decide:=true}) only [orB,andB,notB,eqI,leI,inR]
  by_cases a:n.left=0<;>by_cases b:n.right=0<;>by_cases c:0≤n.value<;>by_cases d:n.value≤9999<;>simp[a,b,c,d]
 by_cases h2:n.kind=2
 ·simp only[h2];simp (config:={decide:=true}) only [orB,andB,notB,eqI,leI,inR]
  by_cases a:n.left=0<;>by_cases b:n.right=0<;>by_cases c:0≤n.value<;>by_cases d:n.value≤3<;>simp[a,b,c,d]
 by_cases h10:n.kind=10
 ·simp only[h10];simp (config:={decide:=true}) only [orB,andB,notB,eqI,leI,inR]
  by_cases a:n.value=0<;>by_cases b:n.right=0<;>by_cases c:0≤n.left<;>by_cases d:n.left≤i - 1<;>simp[a,b,c,d]
 by_cases h3:3≤n.kind∧n.kind≤9
 ·obtain⟨h3,h9⟩:=h3
  have e1:1≤n.kind:=by omega
  have e2:n.kind≤10:=by omega
  have e3:¬ n.kind≤2:=by omega
  simp (config:={decide:=true}) only [orB,andB,notB,eqI,leI,inR]
  by_cases a:n.value=0<;>by_cases c:0≤n.left<;>by_cases d:n.left≤i - 1<;>by_cases c2:0≤n.right<;>by_cases d2:n.right≤i - 1<;>simp[a,c,d,c2,d2,h1,h2,h3,h9,h10,e1,e2,e3]
 ·have:¬ (1≤n.kind∧n.kind≤10):=by omega
  simp[orB,andB,notB,eqI,leI,inR,h1,h2,h10,h3,this]
theorem nodes_same:∀ (l:List Node) (i:Nat),nodes4M i l=nodesM i l
 | [],_=>rfl
 | n::l,i=>by
  simp only[nodes4M,nodesM,node_same,nodes_same l]
def post (l:List Node):Nat→Nat→List Int
 | 0,_=>[]
 | f+1,at_=>
  match l[at_]? with
  | none=>[]
  | some n=>
   if ltI 2 n.kind=true then
    (if inR n.kind 3 9=true then post l f n.left.toNat++post l f n.right.toNat else post l f n.left.toNat)++[(at_:Int)]
   else [(at_:Int)]
theorem walk_mono (l:List Node):∀ (f at_:Nat) (out:List Int),out.length≤(walk4M l f at_ out).length
 | 0,_,out=>by simp[walk4M]
 | f+1,at_,out=>by
  unfold walk4M
  split
  ·exact Nat.le_refl _
  ·rename_i n hn
   have h1:=walk_mono l f n.left.toNat out
   have h2:=walk_mono l f n.right.toNat (walk4M l f n.left.toNat out)
   split
   ·exact Nat.le_refl _
   ·split
    ·split
     ·simp;omega
     ·simp;omega
    ·simp
theorem walk_short (l:List Node):∀ (f at_:Nat) (out:List Int),(walk4M l f at_ out).length≤16→walk4M l f at_ out=out++post l f at_
 | 0,_,out,_=>by simp[walk4M,post]
 | f+1,at_,out,h=>by
  have hm:=walk_mono l (f+1) at_ out
  cases hn:l[at_]? with
  | none=>simp[walk4M,post,hn]
  | some n=>
   have ho:ltI 16 out.length=false:=by simp[ltI];omega
   simp only[walk4M,post,hn,ho,Bool.false_eq_true,if_false] at h ⊢
   cases c:ltI 2 n.kind
   ·simp
   ·simp only[c,if_true] at h ⊢
    cases d:inR n.kind 3 9
    ·simp only[d,Bool.false_eq_true,if_false] at h ⊢
     simp at h
     rw[walk_short l f _ _ (by omega),List.append_assoc]
    ·simp only[d,if_true] at h ⊢
     simp at h
     have h2:=walk_mono l f n.right.toNat (walk4M l f n.left.toNat out)
     rw[walk_short l f n.right.toNat _ (by omega),walk_short l f n.left.toNat out (by omega)]
     simp
theorem walk_long (l:List Node):∀ (f at_:Nat) (out:List Int),out.length+(post l f at_).length≤17→walk4M l f at_ out=out++post l f at_
 | 0,_,out,_=>by simp[walk4M,post]
 | f+1,at_,out,h=>by
  cases hn:l[at_]? with
  | none=>simp[walk4M,post,hn]
  | some n=>
   simp only[walk4M,post,hn] at h ⊢
   cases c:ltI 2 n.kind
   ·simp only[c,Bool.false_eq_true,if_false] at h ⊢
    simp at h
    have ho:ltI 16 out.length=false:=by simp[ltI];omega
    simp[ho]
   ·simp only[c,if_true] at h ⊢
    have ho:ltI 16 out.length=false:=by simp at h;simp[ltI];omega
    simp only[ho,Bool.false_eq_true,if_false]
    cases d:inR n.kind 3 9
    ·simp only[d,Bool.false_eq_true,if_false] at h ⊢
     simp at h
     rw[walk_long l f _ _ (by omega),List.append_assoc]
    ·simp only[d,if_true] at h ⊢
     simp at h
     rw[walk_long l f n.left.toNat out (by omega),walk_long l f n.right.toNat _ (by simp;omega)]
     simp
theorem post_fuel {l:List Node} (hg:Good l):∀ (f g at_:Nat),at_<f→at_<g→post l f at_=post l g at_
 | 0,_,_,h,_=>by omega
 | f+1,0,_,_,h=>by omega
 | f+1,g+1,at_,h1,h2=>by
  unfold post
  split
  ·rfl
  ·rename_i n hn
   obtain⟨hk,he⟩:=List.getElem?_eq_some_iff.1 hn
   obtain⟨gl,gr⟩:=hg at_ hk
   rw[he] at gl gr
   cases c:ltI 2 n.kind
   ·simp
   ·have gl:=gl c
    simp only[if_true]
    rw[post_fuel hg f g n.left.toNat (by omega) (by omega)]
    cases d:inR n.kind 3 9
    ·simp
    ·have gr:=gr d
     simp only[if_true]
     rw[post_fuel hg f g n.right.toNat (by omega) (by omega)]
def Run (a:Int) (L:List Int):Prop:=∀ (p:Nat) (v:Int),L[p]?=some v→v=a+p
theorem inOrder_iff:∀ (L:List Int) (i:Nat),inOrder i L=true↔Run i L
 | [],i=>by simp[inOrder,Run]
 | x::L,i=>by
  have ih:=inOrder_iff L (i+1)
  unfold inOrder
  constructor
  ·intro h p v hp
   split at h
   ·rename_i c
    cases p with
    | zero=>simp[eqI] at c hp;omega
    | succ p=>
     have:=(ih.1 h) p v (by simpa using hp)
     simp at this ⊢;omega
   ·simp at h
  ·intro h
   have h0:x=i:=by simpa using h 0 x (by simp)
   rw[if_pos (by simp[eqI,h0])]
   refine ih.2 fun p v hp=>?_
   have:=h (p+1) v (by simpa using hp)
   simp at this ⊢;omega
theorem Run_app {a:Int} {X Y:List Int} (h1:Run a X) (h2:Run (a+X.length) Y):Run a (X++Y):=by
 intro p v hp
 rw[List.getElem?_append] at hp
 split at hp
 ·exact h1 p v hp
 ·have:=h2 _ v hp;omega
theorem Run_left {a:Int} {X Y:List Int} (h:Run a (X++Y)):Run a X:=fun p v hp=>h p v (by
 obtain⟨hl,_⟩:=List.getElem?_eq_some_iff.1 hp
 rw[List.getElem?_append_left hl];exact hp)
theorem Run_right {a:Int} {X Y:List Int} (h:Run a (X++Y)):Run (a+X.length) Y:=fun p v hp=>by
 have:=h (X.length+p) v (by rw[List.getElem?_append_right (by omega)];simpa using hp)
 simp at this;omega
theorem Run_one (a:Int):Run a [a]:=fun p v hp=>by
 cases p with
 | zero=>simp at hp;simp[hp]
 | succ p=>simp at hp
theorem Run_of {a b:Int} (h:Run a [b]):b=a:=by simpa using h 0 b (by simp)
def sz (l:List Node) (k:Nat):Int:=(post l (k+1) k).length
def okk (l:List Node) (k:Nat):Prop:=∀ n,l[k]?=some n→
 (eqI n.kind 10=true→n.left=k - 1)∧(eqI n.kind 10=false→inR n.kind 3 9=true→n.right=k - 1∧n.left=k - 1 - sz l n.right.toNat)
theorem post_eq {l:List Node} (hg:Good l) {k:Nat} {n:Node} (h:l[k]?=some n):post l (k+1) k=
  if ltI 2 n.kind=true then
    (if inR n.kind 3 9=true then post l (n.left.toNat+1) n.left.toNat++post l (n.right.toNat+1) n.right.toNat else post l (n.left.toNat+1) n.left.toNat)++[(k:Int)]
   else [(k:Int)]:=by
 obtain⟨hk,he⟩:=List.getElem?_eq_some_iff.1 h
 obtain⟨gl,gr⟩:=hg k hk
 rw[he] at gl gr
 conv=>lhs;unfold post
 rw[h]
 simp only
 cases c:ltI 2 n.kind
 ·simp
 ·have gl:=gl c
  simp only[if_true]
  rw[post_fuel hg k (n.left.toNat+1) n.left.toNat (by omega) (by omega)]
  cases d:inR n.kind 3 9
  ·simp
  ·have gr:=gr d
   simp only[if_true]
   rw[post_fuel hg k (n.right.toNat+1) n.right.toNat (by omega) (by omega)]
theorem kinds {n:Node} {i:Int} (h:nodeFaultM n i=0) (c:ltI 2 n.kind=true):(eqI n.kind 10=true∧inR n.kind 3 9=false)∨(eqI n.kind 10=false∧inR n.kind 3 9=true):=by
 have:2<n.kind:=by simpa[ltI] using c
 by_cases a:n.kind=10
 ·left;simp[eqI,inR,andB,leI,a]
 ·by_cases b:inR n.kind 3 9=true
  ·right;exact⟨by simp[eqI,a],b⟩
  ·exfalso
   unfold nodeFaultM at h
   rw[if_neg (by simp[orB,eqI];omega),if_neg (by simp[eqI,a]),if_neg b] at h
   simp at h
theorem ok_run {l:List Node} (hg:Good l) (hf:∀ k n,l[k]?=some n→nodeFaultM n (k:Nat)=0) (ho:∀ k,k<l.length→okk l k):∀ (m k:Nat),k<m→k<l.length→Run (k+1 - sz l k) (post l (k+1) k)
 | 0,_,h,_=>by omega
 | m+1,k,h,hk=>by
  have hn:l[k]?=some l[k]:=by simp[hk]
  obtain⟨o1,o2⟩:=ho k hk _ hn
  obtain⟨gl,gr⟩:=hg k hk
  have hs:sz l k=(post l (k+1) k).length:=rfl
  have hp:=post_eq hg hn
  cases c:ltI 2 (l[k]).kind
  ·rw[c] at hp
   simp at hp
   rw[hs,hp]
   have:=Run_one k
   simpa using this
  ·have gl:=gl c
   rw[c] at hp
   simp only[if_true] at hp
   rcases kinds (hf k _ hn) c with⟨d,e⟩ | ⟨d,e⟩
   ·have o1:=o1 d
    rw[e] at hp
    simp only[Bool.false_eq_true,if_false] at hp
    have ih:=ok_run hg hf ho m (l[k]).left.toNat (by omega) (by omega)
    have hs1:sz l (l[k]).left.toNat=(post l ((l[k]).left.toNat+1) (l[k]).left.toNat).length:=rfl
    have hs2:sz l k=sz l (l[k]).left.toNat+1:=by rw[hs,hp,hs1];simp
    rw[hp]
    refine Run_app ?_ ?_
    ·have e1:(k:Int)+1 - sz l k=((l[k]).left.toNat:Nat)+1 - sz l (l[k]).left.toNat:=by omega
     rw[e1];exact ih
    ·have e1:(k:Int)+1 - sz l k+(post l ((l[k]).left.toNat+1) (l[k]).left.toNat).length=k:=by omega
     rw[e1];exact Run_one _
   ·obtain⟨o3,o4⟩:=o2 d e
    have gr:=gr e
    rw[e] at hp
    simp only[if_true] at hp
    have ih1:=ok_run hg hf ho m (l[k]).left.toNat (by omega) (by omega)
    have ih2:=ok_run hg hf ho m (l[k]).right.toNat (by omega) (by omega)
    have hs1:sz l (l[k]).left.toNat=(post l ((l[k]).left.toNat+1) (l[k]).left.toNat).length:=rfl
    have hs3:sz l (l[k]).right.toNat=(post l ((l[k]).right.toNat+1) (l[k]).right.toNat).length:=rfl
    have hs2:sz l k=sz l (l[k]).left.toNat+sz l (l[k]).right.toNat+1:=by rw[hs,hp,hs1,hs3];simp;omega
    rw[hp]
    refine Run_app (Run_app ?_ ?_) ?_
    ·have e1:(k:Int)+1 - sz l k=((l[k]).left.toNat:Nat)+1 - sz l (l[k]).left.toNat:=by omega
     rw[e1];exact ih1
    ·have e1:(k:Int)+1 - sz l k+(post l ((l[k]).left.toNat+1) (l[k]).left.toNat).length=((l[k]).right.toNat:Nat)+1 - sz l (l[k]).right.toNat:=by omega
     rw[e1];exact ih2
    ·have e1:(k:Int)+1 - sz l k+((post l ((l[k]).left.toNat+1) (l[k]).left.toNat++post l ((l[k]).right.toNat+1) (l[k]).right.toNat).length:Nat)=k:=by
      rw[List.length_append];omega
     rw[e1];exact Run_one _
theorem post_last {l:List Node} (hg:Good l) {k:Nat} (hk:k<l.length):∃ X,post l (k+1) k=X++[(k:Int)]:=by
 have hn:l[k]?=some l[k]:=by simp[hk]
 rw[post_eq hg hn]
 split
 ·split
  ·exact⟨_,rfl⟩
  ·exact⟨_,rfl⟩
 ·exact⟨[],rfl⟩
theorem post_mem {l:List Node} (hg:Good l) (hf:∀ k n,l[k]?=some n→nodeFaultM n (k:Nat)=0):∀ (m k j:Nat),k<m→k<l.length→(j:Int)∈post l (k+1) k→∃ A B,post l (k+1) k=A++post l (j+1) j++B
 | 0,_,_,h,_,_=>by omega
 | m+1,k,j,h,hk,hj=>by
  have hn:l[k]?=some l[k]:=by simp[hk]
  obtain⟨gl,gr⟩:=hg k hk
  have hp:=post_eq hg hn
  by_cases e:j=k
  ·subst e;exact⟨[],[],by simp⟩
  cases c:ltI 2 (l[k]).kind
  ·rw[c] at hp
   simp at hp
   rw[hp] at hj
   simp at hj;omega
  ·have gl:=gl c
   rw[c] at hp
   simp only[if_true] at hp
   rcases kinds (hf k _ hn) c with⟨d,e⟩ | ⟨d,e⟩
   ·rw[e] at hp
    simp only[Bool.false_eq_true,if_false] at hp
    rw[hp] at hj
    have hj2:(j:Int)∈post l ((l[k]).left.toNat+1) (l[k]).left.toNat:=by
     rcases List.mem_append.1 hj with h | h
     ·exact h
     ·simp at h;omega
    obtain⟨A,B,hab⟩:=post_mem hg hf m (l[k]).left.toNat j (by omega) (by omega) hj2
    rw[hp,hab]
    exact⟨A,B++[(k:Int)],by simp⟩
   ·have gr:=gr e
    rw[e] at hp
    simp only[if_true] at hp
    rw[hp] at hj
    rcases List.mem_append.1 hj with hj | hj
    ·rcases List.mem_append.1 hj with hj | hj
     ·obtain⟨A,B,hab⟩:=post_mem hg hf m (l[k]).left.toNat j (by omega) (by omega) hj
      rw[hp,hab]
      exact⟨A,B++post l ((l[k]).right.toNat+1) (l[k]).right.toNat++[(k:Int)],by simp⟩
     ·obtain⟨A,B,hab⟩:=post_mem hg hf m (l[k]).right.toNat j (by omega) (by omega) hj
      rw[hp,hab]
      exact⟨post l ((l[k]).left.toNat+1) (l[k]).left.toNat++A,B++[(k:Int)],by simp⟩
    ·simp at hj;omega
theorem run_ok {l:List Node} (hg:Good l) (_hf:∀ k n,l[k]?=some n→nodeFaultM n (k:Nat)=0) {k:Nat} (hk:k<l.length) {a:Int} (h:Run a (post l (k+1) k)):okk l k:=by
 intro n hn
 have hn':l[k]?=some l[k]:=by simp[hk]
 rw[hn'] at hn
 have hn:=Option.some.inj hn
 subst hn
 obtain⟨gl,gr⟩:=hg k hk
 have hp:=post_eq hg hn'
 refine⟨fun d=>?_,fun d e=>?_⟩
 ·have c:ltI 2 (l[k]).kind=true:=by simp[eqI] at d;simp[ltI,d]
  have e:inR (l[k]).kind 3 9=false:=by simp[eqI] at d;simp[inR,andB,leI,d]
  have gl:=gl c
  rw[c,e] at hp
  simp only[Bool.false_eq_true,if_false,if_true] at hp
  rw[hp] at h
  obtain⟨X,hX⟩:=post_last hg (k:=(l[k]).left.toNat) (by omega)
  have h1:=Run_of (Run_right h)
  rw[hX] at h h1
  have h2:=Run_of (Run_right (Run_left h))
  simp at h1;omega
 ·have c:ltI 2 (l[k]).kind=true:=by simp[inR,andB,leI] at e;simp[ltI];omega
  have gl:=gl c
  have gr:=gr e
  rw[c,e] at hp
  simp only[if_true] at hp
  rw[hp] at h
  obtain⟨X,hX⟩:=post_last hg (k:=(l[k]).left.toNat) (by omega)
  obtain⟨Y,hY⟩:=post_last hg (k:=(l[k]).right.toNat) (by omega)
  have hz:sz l (l[k]).right.toNat=(post l ((l[k]).right.toNat+1) (l[k]).right.toNat).length:=rfl
  have h1:=Run_of (Run_right h)
  have h3:=Run_left h
  have h4:=Run_right h3
  have h5:=Run_left h3
  rw[hY] at h4
  rw[hX] at h5
  have h6:=Run_of (Run_right h4)
  have h7:=Run_of (Run_right h5)
  rw[hX,hY] at h1
  rw[hX] at h6
  rw[hY] at hz
  simp at h1 h6 h7 hz;omega
theorem walkM_is {l:List Node} (hg:Good l) (hf:∀ k n,l[k]?=some n→nodeFaultM n (k:Nat)=0):∀ (rest:List Node) (i:Nat) (sizes:List Int) (w:Bool),l.drop i=rest→sizes.length=i→(∀ k,k<i→szAt sizes k=sz l k)→
  (∀ k,k<l.length→szAt (walkM rest i sizes w).1 k=sz l k)∧((walkM rest i sizes w).2=false↔w=false∧∀ k,i≤k→k<l.length→okk l k)
 | [],i,sizes,w,h,hs,hz=>by
  have hge:l.length≤i:=by simpa using h
  refine⟨fun k hk=>hz k (by omega),?_⟩
  simp[walkM]
  intro _ k hk;omega
 | n::rest,i,sizes,w,h,hs,hz=>by
  have hi:i<l.length:=by
   rcases Nat.lt_or_ge i l.length with h' | h'
   ·exact h'
   ·rw[List.drop_eq_nil_of_le h'] at h;simp at h
  rw[List.drop_eq_getElem_cons hi] at h
  obtain⟨hc,hr⟩:=List.cons.inj h
  have hn:l[i]?=some n:=by simp[hi,hc]
  have hfn:=hf i n hn
  obtain⟨gl,gr⟩:=hg i hi
  rw[hc] at gl gr
  have hp:=post_eq hg hn
  have hsi:sz l i=(post l (i+1) i).length:=rfl
  have hz':∀ x:Int,0≤x→x<i→szAt sizes x=sz l x.toNat:=fun x h0 h1=>by
   have:=hz x.toNat (by omega)
   rw[←this];congr 1;omega
  have hsize:sizeM n sizes=sz l i:=by
   unfold sizeM
   cases c:ltI 2 n.kind
   ·have c':n.kind≤2:=by simpa[ltI] using c
    rw[c] at hp;simp at hp
    rw[if_neg (by simp[eqI];omega),if_neg (by simp[inR,andB,leI];omega),hsi,hp];rfl
   ·have gl:=gl c
    rw[c] at hp;simp only[if_true] at hp
    rcases kinds hfn c with⟨d,e⟩ | ⟨d,e⟩
    ·rw[e] at hp
     simp only[Bool.false_eq_true,if_false] at hp
     rw[if_pos d,hz' _ gl.1 gl.2,hsi,hp]
     simp[sz];omega
    ·have gr:=gr e
     rw[e] at hp
     simp only[if_true] at hp
     rw[if_neg (by simp[d]),if_pos e,hz' _ gl.1 gl.2,hz' _ gr.1 gr.2,hsi,hp]
     simp[sz];omega
  have hwrong:wrongM n i sizes w=false↔w=false∧okk l i:=by
   unfold wrongM okk
   rw[hn]
   cases d:eqI n.kind 10
   ·cases e:inR n.kind 3 9
    ·simp[e,d]
    ·have c:ltI 2 n.kind=true:=by simp[inR,andB,leI] at e;simp[ltI];omega
     have gr:=gr e
     rw[hz' _ gr.1 gr.2]
     have d':¬ n.kind=10:=by simpa[eqI] using d
     simp[e,d',orB,notB,eqI,and_assoc]
   ·have d':n.kind=10:=by simpa[eqI] using d
    simp[d',orB,notB,eqI]
  have ih:=walkM_is hg hf rest (i+1) (sizes++[sizeM n sizes]) (wrongM n i sizes w) hr (by simp[hs]) (fun k hk=>by
   rcases Nat.lt_or_ge k i with h' | h'
   ·rw[←hz k h']
    unfold szAt
    simp[List.getElem?_append,hs,h']
   ·have e:k=i:=by omega
    subst e
    rw[←hsize]
    simp[szAt,hs])
  refine⟨ih.1,?_⟩
  rw[show walkM (n::rest) i sizes w=walkM rest (i+1) (sizes++[sizeM n sizes]) (wrongM n i sizes w) from rfl,ih.2,hwrong,and_assoc]
  refine and_congr_right fun _=>⟨fun ⟨h1,h2⟩ k hk1 hk2=>?_,fun h=>⟨h i (Nat.le_refl _) hi,fun k hk1 hk2=>h k (by omega) hk2⟩⟩
  rcases Nat.lt_or_ge i k with h' | h'
  ·exact h2 k h' hk2
  ·have e:k=i:=by omega
   subst e;exact h1
theorem nodesM_at:∀ {l:List Node} {i:Nat},nodesM i l=0→∀ (k:Nat) (n:Node),l[k]?=some n→nodeFaultM n (i+k:Nat)=0
 | [],i,_,k,n,h=>by simp at h
 | x::l,i,hz,k,n,h=>by
  unfold nodesM at hz
  split at hz
  ·rename_i c;rw[hz] at c;simp[notB,eqI] at c
  ·rename_i c
   cases k with
   | zero=>
    simp at h;subst h
    simpa[notB,eqI] using c
   | succ k=>
    have:=nodesM_at hz k n (by simpa using h)
    have e:i+1+k=i+(k+1):=by omega
    rw[←e];exact this
theorem node_good {n:Node} {i:Nat} (h:nodeFaultM n i=0):(ltI 2 n.kind=true→0≤n.left∧n.left<i)∧(inR n.kind 3 9=true→0≤n.right∧n.right<i):=by
 rw[←node_same] at h
 unfold l3NodeM at h
 split at h
 ·simp at h
 ·split at h
  ·simp at h
  ·split at h
   ·simp at h
   ·split at h
    ·simp at h
    ·rename_i c
     simp[orB,andB,notB,inR,leI] at c
     obtain⟨c1,c2⟩:=c
     refine⟨fun h=>?_,fun h=>?_⟩
     ·simp[ltI] at h
      have:=c1 h;omega
     ·simp[inR,andB,leI] at h
      have:=c2 h.1 h.2;omega
theorem expr_same (l:List Node):expr4M l=exprM l:=by
 unfold expr4M exprM
 by_cases hl:1≤l.length∧l.length≤16
 ·have e1:orB (ltI l.length 1) (ltI 16 l.length)=false:=by simp[orB,ltI];omega
  have e2:notB (inR l.length 1 16)=false:=by simp[notB,inR,andB,leI];omega
  rw[e1,e2,nodes_same]
  simp only[Bool.false_eq_true,if_false]
  by_cases hz:nodesM 0 l=0
  ·have hf:∀ k n,l[k]?=some n→nodeFaultM n (k:Nat)=0:=fun k n h=>by
    have:=nodesM_at hz k n h;simpa using this
   have hg:Good l:=fun k hk=>node_good (hf k l[k] (by simp[hk]))
   obtain⟨w1,w2⟩:=walkM_is hg hf l 0 [] false rfl rfl (fun k hk=>by omega)
   have hn1:l.length - 1<l.length:=by omega
   have hf1:post l l.length (l.length - 1)=post l (l.length - 1+1) (l.length - 1):=post_fuel hg _ _ _ (by omega) (by omega)
   have hsz:sz l (l.length - 1)=(post l (l.length - 1+1) (l.length - 1)).length:=rfl
   have hq:¬ (notB (eqI (nodesM 0 l) 0)=true):=by simp[notB,eqI,hz]
   rw[if_neg hq,if_neg hq]
   have ez:szAt (walkM l 0 [] false).1 ((l.length:Int) - 1)=sz l (l.length - 1):=by
    rw[←w1 _ hn1];congr 1;omega
   rw[ez]
   by_cases ok:(∀ k,k<l.length→okk l k)∧sz l (l.length - 1)=l.length
   ·obtain⟨ok1,ok2⟩:=ok
    have hr:=ok_run hg hf ok1 l.length (l.length - 1) hn1 hn1
    have ho:orderM l=post l (l.length - 1+1) (l.length - 1):=by
     unfold orderM
     rw[walk_long l _ _ _ (by rw[hf1];simp;omega),hf1];rfl
    have e3:(walkM l 0 [] false).2=false:=w2.2 ⟨rfl,fun k _ h=>ok1 k h⟩
    have e5:(orderM l).length=l.length:=by rw[ho];omega
    have e4:inOrder 0 (orderM l)=true:=by
     rw[inOrder_iff,ho]
     have:(((l.length - 1:Nat):Int)+1 - sz l (l.length - 1))=((0:Nat):Int):=by omega
     rw[←this];exact hr
    simp[e3,e4,e5,ok2,orB,notB,eqI]
   ·have e3:orB (walkM l 0 [] false).2 (notB (eqI (sz l (l.length - 1)) (l.length:Int)))=true:=by
     unfold orB notB eqI
     cases hw:(walkM l 0 [] false).2
     ·simp
      intro h
      exact ok ⟨fun k hk=>(w2.1 hw).2 k (by omega) hk,h⟩
     ·rfl
    refine Eq.trans ?_ (if_pos e3).symm
    by_cases c:(orderM l).length=l.length
    rotate_left
    ·rw[if_pos (by simp[notB,eqI];omega)]
    ·rw[if_neg (by simp[notB,eqI,c]),if_neg]
     intro hi
     have ho:orderM l=post l (l.length - 1+1) (l.length - 1):=by
      unfold orderM at c ⊢
      rw[walk_short l _ _ _ (by omega),hf1];rfl
     rw[inOrder_iff,ho] at hi
     have hall:∀ k,k<l.length→okk l k:=fun k hk=>by
      have hm:(k:Int)∈post l (l.length - 1+1) (l.length - 1):=by
       have hk2:k<(post l (l.length - 1+1) (l.length - 1)).length:=by rw[←ho];omega
       have:=hi k _ (List.getElem?_eq_getElem hk2)
       simp at this
       rw[←this];exact List.getElem_mem _
      obtain⟨A,B,hab⟩:=post_mem hg hf l.length (l.length - 1) k hn1 hn1 hm
      rw[hab] at hi
      exact run_ok hg hf hk (Run_right (Run_left hi))
     exact ok ⟨hall,by rw[hsz,←ho,c]⟩
  ·have:notB (eqI (nodesM 0 l) 0)=true:=by simp[notB,eqI,hz]
   simp[this]
 ·have e1:orB (ltI l.length 1) (ltI 16 l.length)=true:=by simp[orB,ltI];omega
  have e2:notB (inR l.length 1 16)=true:=by simp[notB,inR,andB,leI];omega
  simp[e1,e2]
end Go.TM.It
