/- What functions of the program come to, by the machine. -/
import Derived.Test.YtlmiemdojgahaaaGreatCL4
set_option linter.unusedSimpArgs false
set_option linter.unusedVariables false
namespace Go.TM.Ft
open Go Go.TM Go.Proofs
set_option maxRecDepth 20000
attribute [local congr] gif_cg
attribute [local simp] footOf noClash clash upsets setsHit setHits layHits layMeets setsMeet evFeet
def instCode (e:Engine) (x:Inst):Int:=first2 (chartM (stepsOf e x) x.chart) (ci (notB (eqI x.chart.now e.now)) 9)
def instM (e:Engine) (x:Inst):Int:=if notB (inR x.proc 0 ((e.procs.length:Int) - 1))=true then 3 else instCode e x
def instsM (e:Engine):List Inst→Int
 | []=>0
 | x::r=>if eqI (instM e x) 0=true then instsM e r else instM e x
structure FitE (e:Engine):Prop where
 np:e.procs.length < 2 ^ 62
 ni:e.insts.length < 2 ^ 62
 procs:∀ p,p∈e.procs→FitP p
 insts:∀ x,x∈e.insts→FitC x.chart
set_option maxHeartbeats 2000000 in
theorem loop47 (e : Engine) (hf : FitE e) : ∀ (rest : List Inst) (i : Nat), e.insts.drop i = rest →
    evLoop E (orc E) (113 : Nat) (rest.length + 1) (loopOf Tryz.f113 0) ⟨64, [(1, .ptr 1 1 [] 0), (32, .sl 163 (e.insts.map xT)), (33, vI e.insts.length), (34, vI i)], [(1, ⟨1, 1, true, eT e⟩)], 2⟩ =
    (if eqI (instsM e rest) 0 = true then some (.exit 0, ⟨64, [(1, .ptr 1 1 [] 0), (32, .sl 163 (e.insts.map xT)), (33, vI e.insts.length), (34, vI (i + rest.length : Nat)), (35, vB false)], [(1, ⟨1, 1, true, eT e⟩)], 2⟩)
     else some (.ret, ⟨64, [(2, vI (instsM e rest))], [], 2⟩))
  | [], i, h => by
    have hge : e.insts.length ≤ i := by simpa using h
    have hlt : ltI (i : Int) (e.insts.length : Int) = false := ltI_f (by omega)
    rw [loop_eq]
    simp +contextual -dsimp [Tryz.f113, hlt, instsM, eqI_self]
  | x :: rest, i, h => by
    obtain ⟨hi, hc, hr⟩ := drop_cons h
    have hni := hf.ni
    have hlt : ltI (i : Int) (e.insts.length : Int) = true := ltI_t (by omega)
    have hw : IntKind.i64.wrap ((i : Int) + 1) = ((i + 1 : Nat) : Int) := by rw [wrapI] <;> omega
    have he : i + 1 + rest.length = i + (rest.length + 1) := by omega
    have g0 := f_isPlace x.proc e.procs.length hf.np
    have hxc := hf.insts x (by rw [← hc]; exact List.getElem_mem _)
    cases q1 : inR x.proc 0 ((e.procs.length : Int) - 1)
    · have h3 : instM e x = 3 := by simp [instM, q1, notB]
      have h30 : eqI (3 : Int) 0 = false := rfl
      have hm : instsM e (x :: rest) = 3 := by simp [instsM, h3, h30]
      rw [hm, h30, if_neg (by simp)]
      refine evLoop_out ?_ (by simp)
      simp (maxSteps := 1000000) +contextual -dsimp [Tryz.f113, hlt, hi, hc, g0, q1, List.set]
    · obtain ⟨a, hx, ha⟩ : ∃ a : Nat, x.proc = a ∧ a < e.procs.length := by
        simp [inR, andB, leI] at q1
        obtain ⟨k, hk⟩ := Int.eq_ofNat_of_zero_le q1.1
        exact ⟨k, hk, by omega⟩
      have h3 : instM e x = instCode e x := by simp [instM, q1, notB]
      have hp := hf.procs (e.procs[a]) (List.getElem_mem _)
      have g1 := f_steps e x a hx ha
      have e2 : stepsOf e x = e.procs[a] := by simp [stepsOf, hx, ha]
      have g2 := f_ChartFault (e.procs[a]) hp.len hp.steps x.chart hxc
      have g3 := f_first2 (chartM (e.procs[a]) x.chart) (ci (notB (eqI x.chart.now e.now)) 9)
      cases q2 : eqI (instCode e x) 0
      · have hm : instsM e (x :: rest) = instCode e x := by simp [instsM, h3, q2]
        rw [hm, q2, if_neg (by simp)]
        unfold instCode at q2 ⊢
        rw [e2] at q2 ⊢
        refine evLoop_out ?_ (by simp)
        simp (maxSteps := 1000000) +contextual -dsimp [Tryz.f113, hlt, hi, hc, g0, g1, g2, g3, f_ci, q1, q2, List.set]
      · have ih := loop47 e hf rest (i + 1) hr
        rw [he] at ih
        have hm : instsM e (x :: rest) = instsM e rest := by simp [instsM, h3, q2]
        rw [hm]
        unfold instCode at q2
        rw [e2] at q2
        refine evLoop_next ?_ (by simpa only [List.length_cons] using ih)
        simp (maxSteps := 1000000) +contextual -dsimp [Tryz.f113, hlt, hi, hc, hw, g0, g1, g2, g3, f_ci, q1, q2, List.set]
def engA (e:Engine):Int:=first2 (procsF e.procs) (ci (notB (inR e.now 0 1000000)) 3)
def engM (e:Engine):Int:=
 if orB (notB (inR e.procs.length 1 3)) (ltI 6 e.insts.length)=true then 2
 else if notB (eqI (engA e) 0)=true then engA e
 else instsM e e.insts
set_option maxHeartbeats 2000000 in
theorem f_EngineFault (e:Engine) (hf:FitE e):fo 113 [A (.agg (eT e))]=some (R (vI (engM e))):=by
 have g1:=f_procsFault e.procs hf.np hf.procs
 have g3:=f_first2 (procsF e.procs) (ci (notB (inR e.now 0 1000000)) 3)
 have hlp:=loop47 e hf e.insts 0 rfl
 simp -dsimp [Tryz.f113] at hlp
 unfold engM
 refine orc_113 (e.insts.length+1) ?_
 cases q1:inR e.procs.length 1 3
 ·simp (maxSteps:=1000000) +contextual -dsimp [Tryz.f113,f_inRange,q1]
 ·cases q2:ltI 6 e.insts.length
  ·cases q3:eqI (engA e) 0
   ·unfold engA at q3 ⊢
    simp (maxSteps:=1000000) +contextual -dsimp [Tryz.f113,f_inRange,f_isTime,f_ci,g1,g3,q1,q2,q3,List.set]
   ·have q3':=q3
    unfold engA at q3'
    cases q4:eqI (instsM e e.insts) 0
    ·rw [q4] at hlp
     simp (maxSteps:=1000000) +contextual -dsimp [Tryz.f113,f_inRange,f_isTime,f_ci,g1,g3,q1,q2,q3',hlp,List.set]
    ·rw [q4] at hlp
     have e0:instsM e e.insts=0:=by simpa [eqI] using q4
     simp (maxSteps:=1000000) +contextual -dsimp [Tryz.f113,f_inRange,f_isTime,f_ci,g1,g3,q1,q2,q3',e0,hlp,List.set]
  ·simp (maxSteps:=1000000) +contextual -dsimp [Tryz.f113,f_inRange,q1,q2]
end Go.TM.Ft
namespace Go.TM.Ft
open Go Go.TM Go.Proofs
set_option maxRecDepth 20000
attribute [local congr] gif_cg
attribute [local simp] footOf noClash clash upsets setsHit setHits layHits layMeets setsMeet evFeet
abbrev dT (d:Desk):List T:=[.sl 160 (d.eng.procs.map (pT 124 219)),.sl 163 (d.eng.insts.map xT),vI d.eng.now,.sl 150 (d.claims.map kT)]
structure InstOk (e:Engine) (x:Inst):Prop where
 ex:∃ (a:Nat) (_:a < e.procs.length),x.proc=a
 chart:chartM (stepsOf e x) x.chart=0
theorem instM_zero {e:Engine} {x:Inst} (h:instM e x=0):InstOk e x:=by
 unfold instM at h
 split at h
 ·simp at h
 ·rename_i c
  have c:inR x.proc 0 ((e.procs.length:Int) - 1)=true:=by simpa [notB] using c
  refine ⟨?_,(first2_zero h).1⟩
  simp [inR,andB,leI] at c
  obtain ⟨k,hk⟩:=Int.eq_ofNat_of_zero_le c.1
  exact ⟨k,by omega,hk⟩
theorem instsM_zero {e:Engine}:∀ {l:List Inst},instsM e l=0→∀ x,x∈l→InstOk e x
 | [],_,x,hx=>by simp at hx
 | y::l,h,x,hx=>by
  unfold instsM at h
  split at h
  ·rename_i c
   rcases List.mem_cons.1 hx with rfl | hx
   ·exact instM_zero (by simpa [eqI] using c)
   ·exact instsM_zero h x hx
  ·rename_i c; rw [h] at c; exact absurd rfl c
theorem engM_zero {e:Engine} (h:engM e=0):e.procs.length≤3∧e.insts.length≤6∧(∀ x,x∈e.insts→InstOk e x):=by
 unfold engM at h
 split at h
 ·simp at h
 ·rename_i c
  split at h
  ·rename_i c2; rw [h] at c2; simp [notB,eqI] at c2
  ·simp [orB,notB,inR,andB,leI,ltI] at c
   exact ⟨by omega,by omega,instsM_zero h⟩
theorem chartM_zero {l:List Step} {c:Chart} (h:chartM l c=0):chartA l c=0:=by
 unfold chartM at h
 split at h
 ·exact h
 ·rename_i c; simpa [notB,eqI] using c
theorem InstOk.at_ {e:Engine} {x:Inst} (h:InstOk e x):∃ (a:Nat) (ha:a < e.procs.length),x.proc=a∧stepsOf e x=e.procs[a]∧ProcOk (e.procs[a])∧x.chart.acts.length=(e.procs[a]).length:=by
 obtain ⟨⟨a,ha,hx⟩,hc⟩:=h
 have e2:stepsOf e x=e.procs[a]:=by simp [stepsOf,hx,ha]
 rw [e2] at hc
 obtain ⟨z1,_,_,_,z5,_⟩:=chartA_zero (chartM_zero hc)
 exact ⟨a,ha,hx,e2,proc_ok z1,z5⟩
def cmpC (a b:Claim):Int:=first2 (cmpI a.inst b.inst) (cmpI a.step b.step)
theorem f_cmpC (a b:Claim):fo 204 [A (.agg (kT a)),A (.agg (kT b))]=some (R (vI (cmpC a b))):=f_compareClaims a b
def clAt (l:List Claim) (k:Nat):Claim:=l.getD k ⟨0,0,0⟩
def claimM (d:Desk) (i:Nat) (c:Claim):Int:=
 if orB (notB (inR c.inst 0 ((d.eng.insts.length:Int) - 1))) (notB (inR c.user 1 9))=true then 3
 else if notB (isOpenM d.eng c.inst c.step)=true then 4
 else if andB (ltI 0 (i:Int)) (leI 0 (cmpC (clAt d.claims (i - 1)) c))=true then 1 else 0
def claimsM (d:Desk):Nat→List Claim→Int
 | _,[]=>0
 | i,c::r=>if eqI (claimM d i c) 0=true then claimsM d (i+1) r else claimM d i c
set_option maxHeartbeats 4000000 in
theorem loop25 (d : Desk) (hf : FitE d.eng) (h0 : engM d.eng = 0) (hcl : d.claims.length ≤ 60) : ∀ (rest : List Claim) (i : Nat), d.claims.drop i = rest →
    evLoop E (orc E) (153 : Nat) (rest.length + 1) (loopOf Tryz.f153 0) ⟨66, [(1, .ptr 1 1 [] 0), (20, .sl 150 (d.claims.map kT)), (21, vI d.claims.length), (22, vI i)], [(1, ⟨1, 1, true, dT d⟩)], 2⟩ =
    (if eqI (claimsM d i rest) 0 = true then some (.exit 0, ⟨66, [(1, .ptr 1 1 [] 0), (20, .sl 150 (d.claims.map kT)), (21, vI d.claims.length), (22, vI (i + rest.length : Nat)), (23, vB false)], [(1, ⟨1, 1, true, dT d⟩)], 2⟩)
     else some (.ret, ⟨66, [(2, vI (claimsM d i rest))], [], 2⟩))
  | [], i, h => by
    have hge : d.claims.length ≤ i := by simpa using h
    have hlt : ltI (i : Int) (d.claims.length : Int) = false := ltI_f (by omega)
    rw [loop_eq]
    simp +contextual -dsimp [Tryz.f153, hlt, claimsM, eqI_self]
  | x :: rest, i, h => by
    obtain ⟨hi, hc, hr⟩ := drop_cons h
    obtain ⟨n1, n2, n3⟩ := engM_zero h0
    have hlt : ltI (i : Int) (d.claims.length : Int) = true := ltI_t (by omega)
    have hw : IntKind.i64.wrap ((i : Int) + 1) = ((i + 1 : Nat) : Int) := by rw [wrapI] <;> omega
    have he : i + 1 + rest.length = i + (rest.length + 1) := by omega
    have g0 := f_isPlace x.inst d.eng.insts.length (by omega)
    have out : ∀ k : Int, claimM d i x = k → eqI k 0 = false → claimsM d i (x :: rest) = k := fun k h1 h2 => by simp [claimsM, h1, h2]
    have hE : eT d.eng = [.sl 160 (d.eng.procs.map (pT 124 219)), .sl 163 (d.eng.insts.map xT), vI d.eng.now] := rfl
    cases q1 : inR x.inst 0 ((d.eng.insts.length : Int) - 1)
    · have h3 : claimM d i x = 3 := by simp [claimM, q1, notB, orB]
      have hm := out 3 h3 rfl
      have h30 : eqI (3 : Int) 0 = false := rfl
      rw [hm, h30, if_neg (by simp)]
      refine evLoop_out ?_ (by simp)
      simp (maxSteps := 1000000) +contextual -dsimp [Tryz.f153, hlt, hi, hc, g0, q1, List.set]
    cases q2 : inR x.user 1 9
    · have h3 : claimM d i x = 3 := by simp [claimM, q1, q2, notB, orB]
      have hm := out 3 h3 rfl
      have h30 : eqI (3 : Int) 0 = false := rfl
      rw [hm, h30, if_neg (by simp)]
      refine evLoop_out ?_ (by simp)
      simp (maxSteps := 1000000) +contextual -dsimp [Tryz.f153, hlt, hi, hc, g0, f_isUser, q1, q2, List.set]
    obtain ⟨b, hb, hbl⟩ : ∃ b : Nat, x.inst = b ∧ b < d.eng.insts.length := by
      simp [inR, andB, leI] at q1
      obtain ⟨k, hk⟩ := Int.eq_ofNat_of_zero_le q1.1
      exact ⟨k, hk, by omega⟩
    obtain ⟨a, ha, hx, e2, ok, hlen⟩ := (n3 (d.eng.insts[b]) (List.getElem_mem _)).at_
    have g1 := f_isOpen d.eng b hbl a hx ha (by have := ok.le; omega) hlen x.step
    rw [← hb] at g1
    have g2 := f_cmpC (clAt d.claims (i - 1)) x
    cases q3 : isOpenM d.eng x.inst x.step
    · have h3 : claimM d i x = 4 := by simp [claimM, q1, q2, q3, notB, orB]
      have hm := out 4 h3 rfl
      have h30 : eqI (4 : Int) 0 = false := rfl
      rw [hm, h30, if_neg (by simp)]
      refine evLoop_out ?_ (by simp)
      simp (maxSteps := 1000000) +contextual -dsimp [Tryz.f153, hlt, hi, hc, g0, g1, f_isUser, q1, q2, q3, List.set]
    rcases Nat.eq_zero_or_pos i with hi0 | hi0
    · have hl0 : ltI 0 (i : Int) = false := ltI_f (by omega)
      have h3 : claimM d i x = 0 := by simp [claimM, q1, q2, q3, hl0, notB, orB, andB]
      have ih := loop25 d hf h0 hcl rest (i + 1) hr
      rw [he] at ih
      have hm : claimsM d i (x :: rest) = claimsM d (i + 1) rest := by simp [claimsM, h3, eqI_self]
      rw [hm]
      refine evLoop_next ?_ (by simpa only [List.length_cons] using ih)
      simp (maxSteps := 1000000) +contextual -dsimp [Tryz.f153, hlt, hi, hc, hw, g0, g1, f_isUser, q1, q2, q3, hl0, List.set]
    · have hl0 : ltI 0 (i : Int) = true := ltI_t (by omega)
      have hi1 : i - 1 < d.claims.length := by omega
      have hw1 : IntKind.i64.wrap ((i : Int) - 1) = ((i - 1 : Nat) : Int) := by rw [wrapI] <;> omega
      have hcl1 : clAt d.claims (i - 1) = d.claims[i - 1] := by simp [clAt, hi1]
      rw [hcl1] at g2
      cases q4 : leI 0 (cmpC (d.claims[i - 1]) x)
      · have h3 : claimM d i x = 0 := by simp [claimM, q1, q2, q3, hl0, hcl1, q4, notB, orB, andB]
        have ih := loop25 d hf h0 hcl rest (i + 1) hr
        rw [he] at ih
        have hm : claimsM d i (x :: rest) = claimsM d (i + 1) rest := by simp [claimsM, h3, eqI_self]
        rw [hm]
        refine evLoop_next ?_ (by simpa only [List.length_cons] using ih)
        simp (maxSteps := 1000000) +contextual -dsimp [Tryz.f153, hlt, hi, hc, hw, g0, g1, g2, f_isUser, q1, q2, q3, q4, hl0, hi1, hw1, List.set]
      · have h3 : claimM d i x = 1 := by simp [claimM, q1, q2, q3, hl0, hcl1, q4, notB, orB, andB]
        have hm := out 1 h3 rfl
        have h30 : eqI (1 : Int) 0 = false := rfl
        rw [hm, h30, if_neg (by simp)]
        refine evLoop_out ?_ (by simp)
        simp (maxSteps := 1000000) +contextual -dsimp [Tryz.f153, hlt, hi, hc, g0, g1, g2, f_isUser, q1, q2, q3, q4, hl0, hi1, hw1, List.set]
def deskA (d:Desk):Int:=first2 (engM d.eng) (ci (ltI 60 d.claims.length) 2)
def deskM (d:Desk):Int:=if notB (eqI (deskA d) 0)=true then deskA d else claimsM d 0 d.claims
theorem f_DeskFault (d:Desk) (hf:FitE d.eng) (hc:d.claims.length < 2 ^ 62):fo 153 [A (.agg (dT d))]=some (R (vI (deskM d))):=by
 have g1:=f_EngineFault d.eng hf
 have g3:=f_first2 (engM d.eng) (ci (ltI 60 d.claims.length) 2)
 unfold deskM
 refine orc_153 (d.claims.length+1) ?_
 cases q1:eqI (deskA d) 0
 ·unfold deskA at q1 ⊢
  simp (maxSteps:=1000000) +contextual -dsimp [Tryz.f153,f_ci,g1,g3,q1,List.set]
 ·have e0:deskA d=0:=by simpa [eqI] using q1
  have z:=first2_zero e0
  have z2:=ci_zero (by omega) z.2
  have hlp:=loop25 d hf z.1 (by simp [ltI] at z2; omega) d.claims 0 rfl
  simp -dsimp [Tryz.f153] at hlp
  have q1':=q1
  unfold deskA at q1'
  cases q4:eqI (claimsM d 0 d.claims) 0
  ·rw [q4] at hlp
   simp (maxSteps:=1000000) +contextual -dsimp [Tryz.f153,f_ci,g1,g3,q1',hlp,List.set]
  ·rw [q4] at hlp
   have e1:claimsM d 0 d.claims=0:=by simpa [eqI] using q4
   simp (maxSteps:=1000000) +contextual -dsimp [Tryz.f153,f_ci,g1,g3,q1',e1,hlp,List.set]
end Go.TM.Ft
namespace Go.TM.Ft
open Go Go.TM Go.Proofs
set_option maxRecDepth 20000
attribute [local congr] gif_cg
attribute [local simp] footOf noClash clash upsets setsHit setHits layHits layMeets setsMeet evFeet
theorem pr_cvtU (a:Int):pureRun Tryz.prog (convert 3 281 (.int .i64 a))=some (.int .u64 (IntKind.u64.wrap a)):=by kernel_rfl
theorem pr_cvtI (a:Int):pureRun Tryz.prog (convert 281 3 (.int .u64 a))=some (.int .i64 (IntKind.i64.wrap a)):=by kernel_rfl
theorem pr_shr1 (P:Program) (t:TypeId) (x y:Operand) (a:Int):pureRun P (do eqGuard .shr t x y (.int .u64 a) (.int .u64 1); binOp .shr t (.int .u64 a) (.int .u64 1))=some (.int .u64 (Int.fdiv a 2)):=rfl
theorem wrapU {x:Int} (h1:0≤x) (h2:x < 2 ^ 62):IntKind.u64.wrap x=x:=by
 simp [IntKind.wrap,IntKind.bits,IntKind.signed]; omega
def bsM (l:List Claim) (x:Claim):Nat→Nat→Nat→Nat
 | 0,lo,_=>lo
 | n+1,lo,hi=>if lo < hi then (if ltI (cmpC (clAt l ((lo+hi) / 2)) x) 0=true then bsM l x n ((lo+hi) / 2+1) hi else bsM l x n lo ((lo+hi) / 2)) else lo
theorem loopBs (l:List Claim) (x:Claim) (hl:l.length≤60):∀ (n lo hi:Nat),hi - lo≤n→lo≤hi→hi≤l.length→
  evLoop E (orc E) (203:Nat) (n+1) (loopOf Tryz.f203 0) ⟨49,[(0,.sl 150 (l.map kT)),(2,.v (.func (.func (204:Nat)) #[] #[])),(4,.ptr 4 1 [] 0),(8,vI l.length),(9,vI lo),(10,vI hi)],[(4,⟨1,1,true,kT x⟩)],2⟩=
  some (.exit 0,⟨49,[(0,.sl 150 (l.map kT)),(2,.v (.func (.func (204:Nat)) #[] #[])),(4,.ptr 4 1 [] 0),(8,vI l.length),(9,vI (bsM l x n lo hi:Nat)),(10,vI (bsM l x n lo hi:Nat)),(17,vB false)],[(4,⟨1,1,true,kT x⟩)],2⟩)
 | 0,lo,hi,h1,h2,h3=>by
  obtain rfl:lo=hi:=by omega
  have hlt:ltI (lo:Int) (lo:Int)=false:=ltI_f (by omega)
  rw [loop_eq]
  simp +contextual -dsimp [Tryz.f203,hlt,bsM]
 | n+1,lo,hi,h1,h2,h3=>by
  by_cases hlh:lo < hi
  ·have hlt:ltI (lo:Int) (hi:Int)=true:=ltI_t (by omega)
   obtain ⟨m,hm⟩:∃ m,m=(lo+hi) / 2:=⟨_,rfl⟩
   have hml:m < l.length:=by omega
   have w1:IntKind.i64.wrap ((lo:Int)+(hi:Int))=(lo:Int)+(hi:Int):=by rw [wrapI] <;> omega
   have w2:IntKind.u64.wrap ((lo:Int)+(hi:Int))=(lo:Int)+(hi:Int):=wrapU (by omega) (by omega)
   have w3:Int.fdiv ((lo:Int)+(hi:Int)) 2=(m:Int):=by rw [Int.fdiv_eq_ediv_of_nonneg _ (by omega)]; omega
   have w4:IntKind.i64.wrap (m:Int)=(m:Int):=by rw [wrapI] <;> omega
   have w5:IntKind.i64.wrap ((m:Int)+1)=((m+1:Nat):Int):=by rw [wrapI] <;> omega
   have g:=f_cmpC (l[m]) x
   have hc:clAt l m=l[m]:=by simp [clAt,hml]
   cases q:ltI (cmpC (l[m]) x) 0
   ·have ih:=loopBs l x hl n lo m (by omega) (by omega) (by omega)
    have e:bsM l x (n+1) lo hi=bsM l x n lo m:=by simp [bsM,hlh,← hm,hc,q]
    rw [e]
    refine evLoop_next ?_ ih
    simp (maxSteps:=1000000) +contextual -dsimp [Tryz.f203,hlt,w1,w2,w3,w4,w5,pr_cvtU,pr_cvtI,pr_shr1,hml,g,q,List.set]
   ·have ih:=loopBs l x hl n (m+1) hi (by omega) (by omega) (by omega)
    have e:bsM l x (n+1) lo hi=bsM l x n (m+1) hi:=by simp [bsM,hlh,← hm,hc,q]
    rw [e]
    refine evLoop_next ?_ ih
    simp (maxSteps:=1000000) +contextual -dsimp [Tryz.f203,hlt,w1,w2,w3,w4,w5,pr_cvtU,pr_cvtI,pr_shr1,hml,g,q,List.set]
  ·obtain rfl:lo=hi:=by omega
   have hlt:ltI (lo:Int) (lo:Int)=false:=ltI_f (by omega)
   have e:bsM l x (n+1) lo lo=lo:=by simp [bsM]
   rw [loop_eq,e]
   simp +contextual -dsimp [Tryz.f203,hlt]
theorem bsM_le (l:List Claim) (x:Claim):∀ (n lo hi:Nat),lo≤hi→bsM l x n lo hi≤hi
 | 0,lo,hi,h=>h
 | n+1,lo,hi,h=>by
  unfold bsM
  split
  ·split
   ·exact bsM_le l x n _ hi (by omega)
   ·have:=bsM_le l x n lo ((lo+hi) / 2) (by omega); omega
  ·exact h
def posM (l:List Claim) (x:Claim):Nat:=bsM l x l.length 0 l.length
def hasM (l:List Claim) (x:Claim):Bool:=andB (ltI (posM l x) l.length) (eqI (cmpC (clAt l (posM l x)) x) 0)
theorem f_bs (l:List Claim) (x:Claim) (hl:l.length≤60):fo 203 [A (.sl 150 (l.map kT)),A (.agg (kT x)),A (.v (.func (.func (204:Nat)) #[] #[]))]=some (R (.tup [vI (posM l x),vB (hasM l x)])):=by
 have hlp:=loopBs l x hl l.length 0 l.length (by omega) (by omega) (by omega)
 have hle:=bsM_le l x l.length 0 l.length (by omega)
 unfold hasM posM
 simp -dsimp [Tryz.f203] at hlp
 generalize bsM l x l.length 0 l.length=r at *
 refine orc_203 (l.length+1) ?_
 by_cases hr:r < l.length
 ·have hlt:ltI (r:Int) (l.length:Int)=true:=ltI_t (by omega)
  have g:=f_cmpC (l[r]) x
  have hc:clAt l r=l[r]:=by simp [clAt,hr]
  rw [hc]
  simp (maxSteps:=1000000) +contextual -dsimp [Tryz.f203,hlp,hlt,hr,g,List.set]
 ·have hlt:ltI (r:Int) (l.length:Int)=false:=ltI_f (by omega)
  simp (maxSteps:=1000000) +contextual -dsimp [Tryz.f203,hlp,hlt,List.set]
theorem f_claim (d:Desk) (hl:d.claims.length≤60) (i s:Int):fo 135 [A (.agg (dT d)),A (vI i),A (vI s)]=some (R (.tup [vI (posM d.claims ⟨i,s,0⟩),vB (hasM d.claims ⟨i,s,0⟩)])):=by
 have g:=f_bs d.claims ⟨i,s,0⟩ hl
 refine orc_135 1 ?_
 simp (maxSteps:=1000000) +contextual -dsimp [Tryz.f135,g,List.set]
def taskA (d:Desk) (user inst:Int):Int:=first2 (deskM d) (ci (orB (notB (inR user 1 9)) (notB (inR inst 0 ((d.eng.insts.length:Int) - 1)))) 3)
def taskM (d:Desk) (user inst step:Int):Int:=if notB (eqI (taskA d user inst) 0)=true then taskA d user inst else ci (notB (isOpenM d.eng inst step)) 4
theorem deskM_all {d:Desk} (h:deskM d=0):engM d.eng=0∧d.claims.length≤60∧claimsM d 0 d.claims=0:=by
 unfold deskM at h
 cases q:eqI (deskA d) 0
 ·rw [q] at h; simp only [notB,Bool.not_false,if_true] at h
  rw [h] at q; simp [eqI] at q
 ·rw [q] at h
  have e0:deskA d=0:=by simpa [eqI] using q
  have z:=first2_zero e0
  have z2:=ci_zero (by omega) z.2
  exact ⟨z.1,by simp [ltI] at z2; omega,by simpa [notB] using h⟩
theorem inR_nat1 {i:Int} {n:Nat} (q:inR i 0 ((n:Int) - 1)=true):∃ b:Nat,i=b∧b < n:=by
 simp [inR,andB,leI] at q
 obtain ⟨k,hk⟩:=Int.eq_ofNat_of_zero_le q.1
 exact ⟨k,hk,by omega⟩
theorem f_taskCode (d:Desk) (hf:FitE d.eng) (hc:d.claims.length < 2 ^ 62) (user inst step:Int):
  fo 134 [A (.agg (dT d)),A (vI user),A (vI inst),A (vI step)]=some (R (vI (taskM d user inst step))):=by
 have g0:=f_DeskFault d hf hc
 have g1:=f_isPlace inst d.eng.insts.length hf.ni
 have g2:=f_first2 (deskM d) (ci (orB (notB (inR user 1 9)) (notB (inR inst 0 ((d.eng.insts.length:Int) - 1)))) 3)
 unfold taskM taskA
 refine orc_134 1 ?_
 cases q:eqI (first2 (deskM d) (ci (orB (notB (inR user 1 9)) (notB (inR inst 0 ((d.eng.insts.length:Int) - 1)))) 3)) 0
 ·simp (maxSteps:=1000000) +contextual -dsimp [Tryz.f134,g0,f_isUser,g1,f_ci,g2,q,List.set]
 ·have e0:first2 (deskM d) (ci (orB (notB (inR user 1 9)) (notB (inR inst 0 ((d.eng.insts.length:Int) - 1)))) 3)=0:=by simpa [eqI] using q
  have z:=first2_zero e0
  have z2:=ci_zero (by omega) z.2
  have z3:inR inst 0 ((d.eng.insts.length:Int) - 1)=true:=by cases h:inR inst 0 ((d.eng.insts.length:Int) - 1) <;> simp_all [orB,notB]
  obtain ⟨b,hb,hbl⟩:=inR_nat1 z3
  obtain ⟨n1,n2,n3⟩:=engM_zero (deskM_all z.1).1
  obtain ⟨a,ha,hx,e2,ok,hlen⟩:=(n3 (d.eng.insts[b]) (List.getElem_mem _)).at_
  have g3:=f_isOpen d.eng b hbl a hx ha (by have:=ok.le; omega) hlen step
  rw [← hb] at g3
  have hE:eT d.eng=[.sl 160 (d.eng.procs.map (pT 124 219)),.sl 163 (d.eng.insts.map xT),vI d.eng.now]:=rfl
  simp (maxSteps:=1000000) +contextual -dsimp [Tryz.f134,g0,f_isUser,g1,f_ci,g2,q,g3,List.set]
theorem taskM_zero {d:Desk} {u i s:Int} (h:taskM d u i s=0):deskM d=0∧inR u 1 9=true∧inR i 0 ((d.eng.insts.length:Int) - 1)=true∧isOpenM d.eng i s=true:=by
 unfold taskM at h
 cases q:eqI (taskA d u i) 0
 ·rw [q] at h; simp only [notB,Bool.not_false,if_true] at h
  rw [h] at q; simp [eqI] at q
 ·rw [q] at h
  have e0:taskA d u i=0:=by simpa [eqI] using q
  have z:=first2_zero e0
  have z2:=ci_zero (by omega) z.2
  refine ⟨z.1,?_,?_,?_⟩
  ·cases h:inR u 1 9 <;> simp_all [orB,notB]
  ·cases h:inR i 0 ((d.eng.insts.length:Int) - 1) <;> simp_all [orB,notB]
  ·cases h3:isOpenM d.eng i s
   ·rw [h3] at h; simp [notB,ci] at h
   ·rfl
end Go.TM.Ft
namespace Go.TM.Ft
open Go Go.TM Go.Proofs
set_option maxRecDepth 20000
attribute [local congr] gif_cg
attribute [local simp] footOf noClash clash upsets setsHit setHits layHits layMeets setsMeet evFeet
end Go.TM.Ft
