/- What functions of the program come to, by the machine. -/
import Derived.Test.YtlmiemdojgahaaaGreatKL4
set_option linter.unusedSimpArgs false
set_option linter.unusedVariables false
set_option maxHeartbeats 4000000
namespace Go.TM.Ft
open Go Go.TM Go.Proofs Go.Proofs.Tryz
set_option maxRecDepth 20000
attribute [local congr] M0
attribute [local simp] K2 K6 J4 K3 H7 J9 H8 G9 J1 G3
def b0o (e:Engine) (x:Inst):Int:=B5 (chartM (stepsOf e x) x.chart) (ci (A0 (eqI x.chart.now e.now)) 9)
def a6z (e:Engine) (x:Inst):Int:=if A0 (inR x.proc 0 ((e.procs.length:Int) - 1))=true then 3 else b0o e x
def a0r (e:Engine):List Inst→Int
 | []=>0
 | x::r=>if eqI (a6z e x) 0=true then a0r e r else a6z e x
structure FitE (e:Engine):Prop where
 np:e.procs.length < 2 ^ 62
 ni:e.insts.length < 2 ^ 62
 procs:∀ p,p∈e.procs→FitP p
 insts:∀ x,x∈e.insts→FitC x.chart
theorem g1k (e:Engine) (hf:FitE e):∀ (rest:List Inst) (i:Nat),e.insts.drop i=rest→
    A6 E (orc E) (113:Nat) (rest.length+1) (A8 f113 0) ⟨64,[(1,.ptr 1 1 [] 0),(32,.sl 163 (e.insts.map xT)),(33,vI e.insts.length),(34,vI i)],[(1,⟨1,1,true,eT e⟩)],2⟩=
    (if eqI (a0r e rest) 0 = true then some (.exit 0, ⟨64, [(1, .ptr 1 1 [] 0), (32, .sl 163 (e.insts.map xT)), (33, vI e.insts.length), (34, vI (i + rest.length : Nat)), (35, vB false)], [(1, ⟨1, 1, true, eT e⟩)], 2⟩)
     else some (.ret,⟨64,[(2,vI (a0r e rest))],[],2⟩))
  | [],i,h=>by
    have hge:e.insts.length≤i:=by simpa using h
    have hlt:ltI (i:Int) (e.insts.length:Int)=false:=B6 (by omega)
    rw [C3]
    simp +contextual -dsimp [f113,hlt,a0r,B7]
  | x::rest,i,h=>by
    obtain ⟨hi,hc,hr⟩:=C6 h
    have hni:=hf.ni
    have hlt:ltI (i:Int) (e.insts.length:Int)=true:=C4 (by omega)
    have hw:IntKind.i64.wrap ((i:Int)+1)=((i+1:Nat):Int):=by rw [A5] <;> omega
    have he:i+1+rest.length=i+(rest.length+1):=by omega
    have g0:=b4s x.proc e.procs.length hf.np
    have hxc:=hf.insts x (by rw [← hc]; exact List.getElem_mem _)
    cases q1:inR x.proc 0 ((e.procs.length:Int) - 1)
    · have h3 : a6z e x = 3 := by simp [a6z, q1, A0]
      have h30:eqI (3:Int) 0=false:=rfl
      have hm:a0r e (x::rest)=3:=by simp [a0r,h3,h30]
      rw [hm,h30,if_neg (by simp)]
      refine D3 ?_ (by simp)
      simp (maxSteps:=1000000) +contextual -dsimp [f113,hlt,hi,hc,g0,q1,List.set]
    · obtain ⟨a, hx, ha⟩ : ∃ a : Nat, x.proc = a ∧ a < e.procs.length := by
        simp [inR,A1,leI] at q1
        obtain ⟨k,hk⟩:=Int.eq_ofNat_of_zero_le q1.1
        exact ⟨k,hk,by omega⟩
      have h3:a6z e x=b0o e x:=by simp [a6z,q1,A0]
      have hp:=hf.procs (e.procs[a]) (List.getElem_mem _)
      have g1:=c7o e x a hx ha
      have e2:stepsOf e x=e.procs[a]:=by simp [stepsOf,hx,ha]
      have g2:=d2b (e.procs[a]) hp.len hp.steps x.chart hxc
      have g3:=U5 (chartM (e.procs[a]) x.chart) (ci (A0 (eqI x.chart.now e.now)) 9)
      cases q2:eqI (b0o e x) 0
      · have hm : a0r e (x :: rest) = b0o e x := by simp [a0r, h3, q2]
        rw [hm,q2,if_neg (by simp)]
        unfold b0o at q2 ⊢
        rw [e2] at q2 ⊢
        refine D3 ?_ (by simp)
        simp (maxSteps:=1000000) +contextual -dsimp [f113,hlt,hi,hc,g0,g1,g2,g3,O6,q1,q2,List.set]
      · have ih := g1k e hf rest (i + 1) hr
        rw [he] at ih
        have hm:a0r e (x::rest)=a0r e rest:=by simp [a0r,h3,q2]
        rw [hm]
        unfold b0o at q2
        rw [e2] at q2
        refine C1 ?_ (by simpa only [List.length_cons] using ih)
        simp (maxSteps:=1000000) +contextual -dsimp [f113,hlt,hi,hc,hw,g0,g1,g2,g3,O6,q1,q2,List.set]
def b3u (e:Engine):Int:=B5 (a4q e.procs) (ci (A0 (inR e.now 0 1000000)) 3)
def P9 (e:Engine):Int:=
 if orB (A0 (inR e.procs.length 1 3)) (ltI 6 e.insts.length)=true then 2
 else if A0 (eqI (b3u e) 0)=true then b3u e
 else a0r e e.insts
theorem d1p (e:Engine) (hf:FitE e):fo 113 [A (.agg (eT e))]=some (R (vI (P9 e))):=by
 have g1:=g5c e.procs hf.np hf.procs
 have g3:=U5 (a4q e.procs) (ci (A0 (inR e.now 0 1000000)) 3)
 have hlp:=g1k e hf e.insts 0 rfl
 simp -dsimp [f113] at hlp
 unfold P9
 refine h6g (e.insts.length+1) ?_
 cases q1:inR e.procs.length 1 3
 ·simp (maxSteps:=1000000) +contextual -dsimp [f113,G1,q1]
 ·cases q2:ltI 6 e.insts.length
  ·cases q3:eqI (b3u e) 0
   ·unfold b3u at q3 ⊢
    simp (maxSteps:=1000000) +contextual -dsimp [f113,G1,b0m,O6,g1,g3,q1,q2,q3,List.set]
   ·have q3':=q3
    unfold b3u at q3'
    cases q4:eqI (a0r e e.insts) 0
    ·rw [q4] at hlp
     simp (maxSteps:=1000000) +contextual -dsimp [f113,G1,b0m,O6,g1,g3,q1,q2,q3',hlp,List.set]
    ·rw [q4] at hlp
     have e0:a0r e e.insts=0:=by simpa [eqI] using q4
     simp (maxSteps:=1000000) +contextual -dsimp [f113,G1,b0m,O6,g1,g3,q1,q2,q3',e0,hlp,List.set]
  ·simp (maxSteps:=1000000) +contextual -dsimp [f113,G1,q1,q2]
abbrev dT (d:Desk):List T:=[.sl 160 (d.eng.procs.map (pT 124 219)),.sl 163 (d.eng.insts.map xT),vI d.eng.now,.sl 150 (d.claims.map kT)]
structure InstOk (e:Engine) (x:Inst):Prop where
 ex:∃ (a:Nat) (_:a < e.procs.length),x.proc=a
 chart:chartM (stepsOf e x) x.chart=0
theorem g7y {e:Engine} {x:Inst} (h:a6z e x=0):InstOk e x:=by
 unfold a6z at h
 split at h
 ·simp at h
 ·rename_i c
  have c:inR x.proc 0 ((e.procs.length:Int) - 1)=true:=by simpa [A0] using c
  refine ⟨?_,(O1 h).1⟩
  simp [inR,A1,leI] at c
  obtain ⟨k,hk⟩:=Int.eq_ofNat_of_zero_le c.1
  exact ⟨k,by omega,hk⟩
theorem d3s {e:Engine}:∀ {l:List Inst},a0r e l=0→∀ x,x∈l→InstOk e x
 | [],_,x,hx=>by simp at hx
 | y::l,h,x,hx=>by
  unfold a0r at h
  split at h
  ·rename_i c
   rcases List.mem_cons.1 hx with rfl | hx
   ·exact g7y (by simpa [eqI] using c)
   ·exact d3s h x hx
  ·rename_i c; rw [h] at c; exact absurd rfl c
theorem b2d {e:Engine} (h:P9 e=0):e.procs.length≤3∧e.insts.length≤6∧(∀ x,x∈e.insts→InstOk e x):=by
 unfold P9 at h
 split at h
 ·simp at h
 ·rename_i c
  split at h
  ·rename_i c2; rw [h] at c2; simp [A0,eqI] at c2
  ·simp [orB,A0,inR,A1,leI,ltI] at c
   exact ⟨by omega,by omega,d3s h⟩
theorem c1l {l:List Step} {c:Chart} (h:chartM l c=0):a5r l c=0:=by
 unfold chartM at h
 split at h
 ·exact h
 ·rename_i c; simpa [A0,eqI] using c
theorem InstOk.at_ {e:Engine} {x:Inst} (h:InstOk e x):∃ (a:Nat) (ha:a < e.procs.length),x.proc=a∧stepsOf e x=e.procs[a]∧ProcOk (e.procs[a])∧x.chart.acts.length=(e.procs[a]).length:=by
 obtain ⟨⟨a,ha,hx⟩,hc⟩:=h
 have e2:stepsOf e x=e.procs[a]:=by simp [stepsOf,hx,ha]
 rw [e2] at hc
 obtain ⟨z1,_,_,_,z5,_⟩:=b6y (c1l hc)
 exact ⟨a,ha,hx,e2,b8z z1,z5⟩
def a4z (a b:Claim):Int:=B5 (a9y a.inst b.inst) (a9y a.step b.step)
theorem c8k (a b:Claim):fo 204 [A (.agg (kT a)),A (.agg (kT b))]=some (R (vI (a4z a b))):=g3s a b
def L0 (l:List Claim) (k:Nat):Claim:=l.getD k ⟨0,0,0⟩
def K1 (d:Desk) (i:Nat) (c:Claim):Int:=
 if orB (A0 (inR c.inst 0 ((d.eng.insts.length:Int) - 1))) (A0 (inR c.user 1 9))=true then 3
 else if A0 (V7 d.eng c.inst c.step)=true then 4
 else if A1 (ltI 0 (i:Int)) (leI 0 (a4z (L0 d.claims (i - 1)) c))=true then 1 else 0
def J8 (d:Desk):Nat→List Claim→Int
 | _,[]=>0
 | i,c::r=>if eqI (K1 d i c) 0=true then J8 d (i+1) r else K1 d i c
theorem c8l (d:Desk) (hf:FitE d.eng) (h0:P9 d.eng=0) (hcl:d.claims.length≤60):∀ (rest:List Claim) (i:Nat),d.claims.drop i=rest→
    A6 E (orc E) (153:Nat) (rest.length+1) (A8 f153 0) ⟨66,[(1,.ptr 1 1 [] 0),(20,.sl 150 (d.claims.map kT)),(21,vI d.claims.length),(22,vI i)],[(1,⟨1,1,true,dT d⟩)],2⟩=
    (if eqI (J8 d i rest) 0 = true then some (.exit 0, ⟨66, [(1, .ptr 1 1 [] 0), (20, .sl 150 (d.claims.map kT)), (21, vI d.claims.length), (22, vI (i + rest.length : Nat)), (23, vB false)], [(1, ⟨1, 1, true, dT d⟩)], 2⟩)
     else some (.ret,⟨66,[(2,vI (J8 d i rest))],[],2⟩))
  | [],i,h=>by
    have hge:d.claims.length≤i:=by simpa using h
    have hlt:ltI (i:Int) (d.claims.length:Int)=false:=B6 (by omega)
    rw [C3]
    simp +contextual -dsimp [f153,hlt,J8,B7]
  | x::rest,i,h=>by
    obtain ⟨hi,hc,hr⟩:=C6 h
    obtain ⟨n1,n2,n3⟩:=b2d h0
    have hlt:ltI (i:Int) (d.claims.length:Int)=true:=C4 (by omega)
    have hw:IntKind.i64.wrap ((i:Int)+1)=((i+1:Nat):Int):=by rw [A5] <;> omega
    have he:i+1+rest.length=i+(rest.length+1):=by omega
    have g0:=b4s x.inst d.eng.insts.length (by omega)
    have out:∀ k:Int,K1 d i x=k→eqI k 0=false→J8 d i (x::rest)=k:=fun k h1 h2=>by simp [J8,h1,h2]
    have hE:eT d.eng=[.sl 160 (d.eng.procs.map (pT 124 219)),.sl 163 (d.eng.insts.map xT),vI d.eng.now]:=rfl
    cases q1:inR x.inst 0 ((d.eng.insts.length:Int) - 1)
    · have h3 : K1 d i x = 3 := by simp [K1, q1, A0, orB]
      have hm:=out 3 h3 rfl
      have h30:eqI (3:Int) 0=false:=rfl
      rw [hm,h30,if_neg (by simp)]
      refine D3 ?_ (by simp)
      simp (maxSteps:=1000000) +contextual -dsimp [f153,hlt,hi,hc,g0,q1,List.set]
    cases q2:inR x.user 1 9
    · have h3 : K1 d i x = 3 := by simp [K1, q1, q2, A0, orB]
      have hm:=out 3 h3 rfl
      have h30:eqI (3:Int) 0=false:=rfl
      rw [hm,h30,if_neg (by simp)]
      refine D3 ?_ (by simp)
      simp (maxSteps:=1000000) +contextual -dsimp [f153,hlt,hi,hc,g0,b0l,q1,q2,List.set]
    obtain ⟨b,hb,hbl⟩:∃ b:Nat,x.inst=b∧b < d.eng.insts.length:=by
      simp [inR,A1,leI] at q1
      obtain ⟨k,hk⟩:=Int.eq_ofNat_of_zero_le q1.1
      exact ⟨k,hk,by omega⟩
    obtain ⟨a,ha,hx,e2,ok,hlen⟩:=(n3 (d.eng.insts[b]) (List.getElem_mem _)).at_
    have g1:=c5i d.eng b hbl a hx ha (by have:=ok.le; omega) hlen x.step
    rw [← hb] at g1
    have g2:=c8k (L0 d.claims (i - 1)) x
    cases q3:V7 d.eng x.inst x.step
    · have h3 : K1 d i x = 4 := by simp [K1, q1, q2, q3, A0, orB]
      have hm:=out 4 h3 rfl
      have h30:eqI (4:Int) 0=false:=rfl
      rw [hm,h30,if_neg (by simp)]
      refine D3 ?_ (by simp)
      simp (maxSteps:=1000000) +contextual -dsimp [f153,hlt,hi,hc,g0,g1,b0l,q1,q2,q3,List.set]
    rcases Nat.eq_zero_or_pos i with hi0 | hi0
    · have hl0 : ltI 0 (i : Int) = false := B6 (by omega)
      have h3:K1 d i x=0:=by simp [K1,q1,q2,q3,hl0,A0,orB,A1]
      have ih:=c8l d hf h0 hcl rest (i+1) hr
      rw [he] at ih
      have hm:J8 d i (x::rest)=J8 d (i+1) rest:=by simp [J8,h3,B7]
      rw [hm]
      refine C1 ?_ (by simpa only [List.length_cons] using ih)
      simp (maxSteps:=1000000) +contextual -dsimp [f153,hlt,hi,hc,hw,g0,g1,b0l,q1,q2,q3,hl0,List.set]
    · have hl0 : ltI 0 (i : Int) = true := C4 (by omega)
      have hi1:i - 1 < d.claims.length:=by omega
      have hw1:IntKind.i64.wrap ((i:Int) - 1)=((i - 1:Nat):Int):=by rw [A5] <;> omega
      have hcl1:L0 d.claims (i - 1)=d.claims[i - 1]:=by simp [L0,hi1]
      rw [hcl1] at g2
      cases q4:leI 0 (a4z (d.claims[i - 1]) x)
      · have h3 : K1 d i x = 0 := by simp [K1, q1, q2, q3, hl0, hcl1, q4, A0, orB, A1]
        have ih:=c8l d hf h0 hcl rest (i+1) hr
        rw [he] at ih
        have hm:J8 d i (x::rest)=J8 d (i+1) rest:=by simp [J8,h3,B7]
        rw [hm]
        refine C1 ?_ (by simpa only [List.length_cons] using ih)
        simp (maxSteps:=1000000) +contextual -dsimp [f153,hlt,hi,hc,hw,g0,g1,g2,b0l,q1,q2,q3,q4,hl0,hi1,hw1,List.set]
      · have h3 : K1 d i x = 1 := by simp [K1, q1, q2, q3, hl0, hcl1, q4, A0, orB, A1]
        have hm:=out 1 h3 rfl
        have h30:eqI (1:Int) 0=false:=rfl
        rw [hm,h30,if_neg (by simp)]
        refine D3 ?_ (by simp)
        simp (maxSteps:=1000000) +contextual -dsimp [f153,hlt,hi,hc,g0,g1,g2,b0l,q1,q2,q3,q4,hl0,hi1,hw1,List.set]
def a8l (d:Desk):Int:=B5 (P9 d.eng) (ci (ltI 60 d.claims.length) 2)
def a2l (d:Desk):Int:=if A0 (eqI (a8l d) 0)=true then a8l d else J8 d 0 d.claims
theorem g6m (d:Desk) (hf:FitE d.eng) (hc:d.claims.length < 2 ^ 62):fo 153 [A (.agg (dT d))]=some (R (vI (a2l d))):=by
 have g1:=d1p d.eng hf
 have g3:=U5 (P9 d.eng) (ci (ltI 60 d.claims.length) 2)
 unfold a2l
 refine h6x (d.claims.length+1) ?_
 cases q1:eqI (a8l d) 0
 ·unfold a8l at q1 ⊢
  simp (maxSteps:=1000000) +contextual -dsimp [f153,O6,g1,g3,q1,List.set]
 ·have e0:a8l d=0:=by simpa [eqI] using q1
  have z:=O1 e0
  have z2:=a5h (by omega) z.2
  have hlp:=c8l d hf z.1 (by simp [ltI] at z2; omega) d.claims 0 rfl
  simp -dsimp [f153] at hlp
  have q1':=q1
  unfold a8l at q1'
  cases q4:eqI (J8 d 0 d.claims) 0
  ·rw [q4] at hlp
   simp (maxSteps:=1000000) +contextual -dsimp [f153,O6,g1,g3,q1',hlp,List.set]
  ·rw [q4] at hlp
   have e1:J8 d 0 d.claims=0:=by simpa [eqI] using q4
   simp (maxSteps:=1000000) +contextual -dsimp [f153,O6,g1,g3,q1',e1,hlp,List.set]
theorem f6k (a:Int):D6 Tryz.prog (convert 3 281 (.int .i64 a))=some (.int .u64 (IntKind.u64.wrap a)):=by kernel_rfl
theorem f6l (a:Int):D6 Tryz.prog (convert 281 3 (.int .u64 a))=some (.int .i64 (IntKind.i64.wrap a)):=by kernel_rfl
theorem f6m (P:Program) (t:TypeId) (x y:Operand) (a:Int):D6 P (do eqGuard .shr t x y (.int .u64 a) (.int .u64 1); binOp .shr t (.int .u64 a) (.int .u64 1))=some (.int .u64 (Int.fdiv a 2)):=rfl
theorem i6q {x:Int} (h1:0≤x) (h2:x < 2 ^ 62):IntKind.u64.wrap x=x:=by
 simp [IntKind.wrap,IntKind.bits,IntKind.signed]; omega
def bsM (l:List Claim) (x:Claim):Nat→Nat→Nat→Nat
 | 0,lo,_=>lo
 | n+1,lo,hi=>if lo < hi then (if ltI (a4z (L0 l ((lo+hi) / 2)) x) 0=true then bsM l x n ((lo+hi) / 2+1) hi else bsM l x n lo ((lo+hi) / 2)) else lo
theorem c8m (l:List Claim) (x:Claim) (hl:l.length≤60):∀ (n lo hi:Nat),hi - lo≤n→lo≤hi→hi≤l.length→
  A6 E (orc E) (203:Nat) (n+1) (A8 f203 0) ⟨49,[(0,.sl 150 (l.map kT)),(2,.v (.func (.func (204:Nat)) #[] #[])),(4,.ptr 4 1 [] 0),(8,vI l.length),(9,vI lo),(10,vI hi)],[(4,⟨1,1,true,kT x⟩)],2⟩=
  some (.exit 0,⟨49,[(0,.sl 150 (l.map kT)),(2,.v (.func (.func (204:Nat)) #[] #[])),(4,.ptr 4 1 [] 0),(8,vI l.length),(9,vI (bsM l x n lo hi:Nat)),(10,vI (bsM l x n lo hi:Nat)),(17,vB false)],[(4,⟨1,1,true,kT x⟩)],2⟩)
 | 0,lo,hi,h1,h2,h3=>by
  obtain rfl:lo=hi:=by omega
  have hlt:ltI (lo:Int) (lo:Int)=false:=B6 (by omega)
  rw [C3]
  simp +contextual -dsimp [f203,hlt,bsM]
 | n+1,lo,hi,h1,h2,h3=>by
  by_cases hlh:lo < hi
  ·have hlt:ltI (lo:Int) (hi:Int)=true:=C4 (by omega)
   obtain ⟨m,hm⟩:∃ m,m=(lo+hi) / 2:=⟨_,rfl⟩
   have hml:m < l.length:=by omega
   have w1:IntKind.i64.wrap ((lo:Int)+(hi:Int))=(lo:Int)+(hi:Int):=by rw [A5] <;> omega
   have w2:IntKind.u64.wrap ((lo:Int)+(hi:Int))=(lo:Int)+(hi:Int):=i6q (by omega) (by omega)
   have w3:Int.fdiv ((lo:Int)+(hi:Int)) 2=(m:Int):=by rw [Int.fdiv_eq_ediv_of_nonneg _ (by omega)]; omega
   have w4:IntKind.i64.wrap (m:Int)=(m:Int):=by rw [A5] <;> omega
   have w5:IntKind.i64.wrap ((m:Int)+1)=((m+1:Nat):Int):=by rw [A5] <;> omega
   have g:=c8k (l[m]) x
   have hc:L0 l m=l[m]:=by simp [L0,hml]
   cases q:ltI (a4z (l[m]) x) 0
   ·have ih:=c8m l x hl n lo m (by omega) (by omega) (by omega)
    have e:bsM l x (n+1) lo hi=bsM l x n lo m:=by simp [bsM,hlh,← hm,hc,q]
    rw [e]
    refine C1 ?_ ih
    simp (maxSteps:=1000000) +contextual -dsimp [f203,hlt,w1,w2,w3,w4,w5,f6k,f6l,f6m,hml,g,q,List.set]
   ·have ih:=c8m l x hl n (m+1) hi (by omega) (by omega) (by omega)
    have e:bsM l x (n+1) lo hi=bsM l x n (m+1) hi:=by simp [bsM,hlh,← hm,hc,q]
    rw [e]
    refine C1 ?_ ih
    simp (maxSteps:=1000000) +contextual -dsimp [f203,hlt,w1,w2,w3,w4,w5,f6k,f6l,f6m,hml,g,q,List.set]
  ·obtain rfl:lo=hi:=by omega
   have hlt:ltI (lo:Int) (lo:Int)=false:=B6 (by omega)
   have e:bsM l x (n+1) lo lo=lo:=by simp [bsM]
   rw [C3,e]
   simp +contextual -dsimp [f203,hlt]
theorem c8n (l:List Claim) (x:Claim):∀ (n lo hi:Nat),lo≤hi→bsM l x n lo hi≤hi
 | 0,lo,hi,h=>h
 | n+1,lo,hi,h=>by
  unfold bsM
  split
  ·split
   ·exact c8n l x n _ hi (by omega)
   ·have:=c8n l x n lo ((lo+hi) / 2) (by omega); omega
  ·exact h
def M5 (l:List Claim) (x:Claim):Nat:=bsM l x l.length 0 l.length
def a4b (l:List Claim) (x:Claim):Bool:=A1 (ltI (M5 l x) l.length) (eqI (a4z (L0 l (M5 l x)) x) 0)
theorem i7d (l:List Claim) (x:Claim) (hl:l.length≤60):fo 203 [A (.sl 150 (l.map kT)),A (.agg (kT x)),A (.v (.func (.func (204:Nat)) #[] #[]))]=some (R (.tup [vI (M5 l x),vB (a4b l x)])):=by
 have hlp:=c8m l x hl l.length 0 l.length (by omega) (by omega) (by omega)
 have hle:=c8n l x l.length 0 l.length (by omega)
 unfold a4b M5
 simp -dsimp [f203] at hlp
 generalize bsM l x l.length 0 l.length=r at *
 refine h8g (l.length+1) ?_
 by_cases hr:r < l.length
 ·have hlt:ltI (r:Int) (l.length:Int)=true:=C4 (by omega)
  have g:=c8k (l[r]) x
  have hc:L0 l r=l[r]:=by simp [L0,hr]
  rw [hc]
  simp (maxSteps:=1000000) +contextual -dsimp [f203,hlp,hlt,hr,g,List.set]
 ·have hlt:ltI (r:Int) (l.length:Int)=false:=B6 (by omega)
  simp (maxSteps:=1000000) +contextual -dsimp [f203,hlp,hlt,List.set]
theorem i1w (d:Desk) (hl:d.claims.length≤60) (i s:Int):fo 135 [A (.agg (dT d)),A (vI i),A (vI s)]=some (R (.tup [vI (M5 d.claims ⟨i,s,0⟩),vB (a4b d.claims ⟨i,s,0⟩)])):=by
 have g:=i7d d.claims ⟨i,s,0⟩ hl
 refine h6v 1 ?_
 simp (maxSteps:=1000000) +contextual -dsimp [f135,g,List.set]
def a8m (d:Desk) (user inst:Int):Int:=B5 (a2l d) (ci (orB (A0 (inR user 1 9)) (A0 (inR inst 0 ((d.eng.insts.length:Int) - 1)))) 3)
def L8 (d:Desk) (user inst step:Int):Int:=if A0 (eqI (a8m d user inst) 0)=true then a8m d user inst else ci (A0 (V7 d.eng inst step)) 4
theorem b2e {d:Desk} (h:a2l d=0):P9 d.eng=0∧d.claims.length≤60∧J8 d 0 d.claims=0:=by
 unfold a2l at h
 cases q:eqI (a8l d) 0
 ·rw [q] at h; simp only [A0,Bool.not_false,if_true] at h
  rw [h] at q; simp [eqI] at q
 ·rw [q] at h
  have e0:a8l d=0:=by simpa [eqI] using q
  have z:=O1 e0
  have z2:=a5h (by omega) z.2
  exact ⟨z.1,by simp [ltI] at z2; omega,by simpa [A0] using h⟩
theorem c5j {i:Int} {n:Nat} (q:inR i 0 ((n:Int) - 1)=true):∃ b:Nat,i=b∧b < n:=by
 simp [inR,A1,leI] at q
 obtain ⟨k,hk⟩:=Int.eq_ofNat_of_zero_le q.1
 exact ⟨k,hk,by omega⟩
theorem g7z (d:Desk) (hf:FitE d.eng) (hc:d.claims.length < 2 ^ 62) (user inst step:Int):
  fo 134 [A (.agg (dT d)),A (vI user),A (vI inst),A (vI step)]=some (R (vI (L8 d user inst step))):=by
 have g0:=g6m d hf hc
 have g1:=b4s inst d.eng.insts.length hf.ni
 have g2:=U5 (a2l d) (ci (orB (A0 (inR user 1 9)) (A0 (inR inst 0 ((d.eng.insts.length:Int) - 1)))) 3)
 unfold L8 a8m
 refine h6u 1 ?_
 cases q:eqI (B5 (a2l d) (ci (orB (A0 (inR user 1 9)) (A0 (inR inst 0 ((d.eng.insts.length:Int) - 1)))) 3)) 0
 ·simp (maxSteps:=1000000) +contextual -dsimp [f134,g0,b0l,g1,O6,g2,q,List.set]
 ·have e0:B5 (a2l d) (ci (orB (A0 (inR user 1 9)) (A0 (inR inst 0 ((d.eng.insts.length:Int) - 1)))) 3)=0:=by simpa [eqI] using q
  have z:=O1 e0
  have z2:=a5h (by omega) z.2
  have z3:inR inst 0 ((d.eng.insts.length:Int) - 1)=true:=by cases h:inR inst 0 ((d.eng.insts.length:Int) - 1) <;> simp_all [orB,A0]
  obtain ⟨b,hb,hbl⟩:=c5j z3
  obtain ⟨n1,n2,n3⟩:=b2d (b2e z.1).1
  obtain ⟨a,ha,hx,e2,ok,hlen⟩:=(n3 (d.eng.insts[b]) (List.getElem_mem _)).at_
  have g3:=c5i d.eng b hbl a hx ha (by have:=ok.le; omega) hlen step
  rw [← hb] at g3
  have hE:eT d.eng=[.sl 160 (d.eng.procs.map (pT 124 219)),.sl 163 (d.eng.insts.map xT),vI d.eng.now]:=rfl
  simp (maxSteps:=1000000) +contextual -dsimp [f134,g0,b0l,g1,O6,g2,q,g3,List.set]
def a7a (d:Desk) (user inst step:Int):Int × Int:=
 if A0 (eqI (L8 d user inst step) 0)=true then (0,L8 d user inst step)
 else ((M5 d.claims ⟨inst,step,0⟩:Nat),ci (orB (A0 (a4b d.claims ⟨inst,step,0⟩)) (A0 (eqI (L0 d.claims (M5 d.claims ⟨inst,step,0⟩)).user user))) 10)
theorem b4q {d:Desk} {u i s:Int} (h:L8 d u i s=0):a2l d=0∧inR u 1 9=true∧inR i 0 ((d.eng.insts.length:Int) - 1)=true∧V7 d.eng i s=true:=by
 unfold L8 at h
 cases q:eqI (a8m d u i) 0
 ·rw [q] at h; simp only [A0,Bool.not_false,if_true] at h
  rw [h] at q; simp [eqI] at q
 ·rw [q] at h
  have e0:a8m d u i=0:=by simpa [eqI] using q
  have z:=O1 e0
  have z2:=a5h (by omega) z.2
  refine ⟨z.1,?_,?_,?_⟩
  ·cases h:inR u 1 9 <;> simp_all [orB,A0]
  ·cases h:inR i 0 ((d.eng.insts.length:Int) - 1) <;> simp_all [orB,A0]
  ·cases h3:V7 d.eng i s
   ·rw [h3] at h; simp [A0,ci] at h
   ·rfl
theorem g8a (d:Desk) (hf:FitE d.eng) (hc:d.claims.length < 2 ^ 62) (user inst step:Int):
  fo 99 [A (.agg (dT d)),A (vI user),A (vI inst),A (vI step)]=some (R (.tup [vI (a7a d user inst step).1,vI (a7a d user inst step).2])):=by
 have g0:=g7z d hf hc user inst step
 unfold a7a
 refine i3v 1 ?_
 cases q:eqI (L8 d user inst step) 0
 ·simp (maxSteps:=1000000) +contextual -dsimp [f99,g0,q,List.set]
 ·have e0:L8 d user inst step=0:=by simpa [eqI] using q
  have z:=b4q e0
  have zl:=(b2e z.1).2.1
  have g1:=i1w d zl inst step
  rw [e0] at g0
  cases q2:a4b d.claims ⟨inst,step,0⟩
  ·simp (maxSteps:=1000000) +contextual -dsimp [f99,g0,g1,O6,q2,e0,B7,List.set]
  ·have hp:M5 d.claims ⟨inst,step,0⟩ < d.claims.length:=by
    unfold a4b at q2
    simp [A1,ltI] at q2
    omega
   have hcl:L0 d.claims (M5 d.claims ⟨inst,step,0⟩)=d.claims[M5 d.claims ⟨inst,step,0⟩]:=by simp [L0,hp]
   rw [hcl]
   generalize M5 d.claims ⟨inst,step,0⟩=r at *
   simp (maxSteps:=1000000) +contextual -dsimp [f99,g0,g1,O6,q2,e0,B7,hp,List.set]
end Go.TM.Ft
