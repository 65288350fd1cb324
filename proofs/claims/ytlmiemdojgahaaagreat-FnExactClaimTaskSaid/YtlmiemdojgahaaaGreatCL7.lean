/- What functions of the program come to, by the machine. -/
import Derived.Test.YtlmiemdojgahaaaGreatCL5
import Derived.Test.YtlmiemdojgahaaaGreatCL6
set_option linter.unusedSimpArgs false
set_option linter.unusedVariables false
namespace Go.TM.Ft
open Go Go.TM Go.Proofs
set_option maxRecDepth 20000
attribute [local congr] gif_cg
attribute [local simp] footOf noClash clash upsets setsHit setHits layHits layMeets setsMeet evFeet
theorem f_l8Time (n:Int):fo 129 [A (vI n)]=some (R (vB (inR n 0 1000000))):=by
 refine orc_129 1 ?_
 simp (maxSteps:=1000000) +contextual -dsimp [Tryz.f129,f_l1In]
def anyV:List Int→Bool
 | []=>false
 | x::r=>if badV x=true then true else anyV r
theorem lp83 (all:List Int) (hall:all.length≤1000):∀ (rest:List Int) (i:Nat),all.drop i=rest→
  evLoop E (orc E) (159:Nat) (rest.length+1) (loopOf Tryz.f159 0) ⟨19,[(0,iS all),(3,vI i)],[],2⟩=
  (if anyV rest=true then some (.ret,⟨19,[(2,vI 3)],[],2⟩) else some (.exit 0,⟨19,[(0,iS all),(3,vI (i+rest.length:Nat)),(10,vB false)],[],2⟩))
 | [],i,h=>by
  have hge:all.length≤i:=by simpa using h
  have hlt:ltI (i:Int) (all.length:Int)=false:=ltI_f (by omega)
  rw [loop_eq]
  simp +contextual -dsimp [Tryz.f159,hlt,anyV]
 | x::rest,i,h=>by
  obtain ⟨hi,hc,hr⟩:=drop_cons h
  have hlt:ltI (i:Int) (all.length:Int)=true:=ltI_t (by omega)
  have hw:IntKind.i64.wrap ((i:Int)+1)=((i+1:Nat):Int):=by rw [wrapI] <;> omega
  have he:i+1+rest.length=i+(rest.length+1):=by omega
  cases q:inR x (-1000000) 1000000
  ·have hm:anyV (x::rest)=true:=by simp [anyV,badV,q,notB]
   rw [hm,if_pos rfl]
   refine evLoop_out ?_ (by simp)
   simp (maxSteps:=1000000) +contextual -dsimp [Tryz.f159,hlt,hi,hc,f_l1In,q]
  ·have hm:anyV (x::rest)=anyV rest:=by simp [anyV,badV,q,notB]
   have ih:=lp83 all hall rest (i+1) hr
   rw [he] at ih
   rw [hm]
   refine evLoop_next ?_ (by simpa only [List.length_cons] using ih)
   simp (maxSteps:=1000000) +contextual -dsimp [Tryz.f159,hlt,hi,hc,hw,f_l1In,q]
def vars4M (l:List Int):Int:=if notB (eqI l.length 4)=true then 2 else if anyV l=true then 3 else 0
theorem f_Vars4 (l:List Int):fo 159 [A (iS l)]=some (R (vI (vars4M l))):=by
 unfold vars4M
 cases q:eqI l.length 4
 ·refine orc_159 1 ?_
  simp (maxSteps:=1000000) +contextual -dsimp [Tryz.f159,q]
 ·have hl:l.length≤1000:=by simp [eqI] at q; omega
  have hlp:=lp83 l hl l 0 rfl
  refine orc_159 (l.length+1) ?_
  simp -dsimp [Tryz.f159] at hlp
  cases q2:anyV l
  ·rw [q2] at hlp
   simp (maxSteps:=1000000) +contextual -dsimp [Tryz.f159,q,hlp]
  ·rw [q2] at hlp
   simp (maxSteps:=1000000) +contextual -dsimp [Tryz.f159,q,hlp]
set_option maxHeartbeats 2000000 in
theorem lp84 (l:List Step) (c:Chart) (at_:Int) (hb:c.acts.length < 2 ^ 62) (all:List Int) (hall:all.length≤1000) (hk:∀ k,k∈all→∃ a:Nat,k=a∧a < c.acts.length):∀ (rest:List Int) (i n m:Nat),all.drop i=rest→n≤i→m≤i→
  evLoop E (orc E) (228:Nat) (rest.length+1) (loopOf Tryz.f228 0) ⟨130,[(0,.sl 124 (l.map (sT 219))),(1,.ipt (cT c)),(2,vI at_),(7,iS all),(8,vI n),(9,vI m),(10,vI i)],[],2⟩=
  some (.exit 0,⟨130,[(0,.sl 124 (l.map (sT 219))),(1,.ipt (cT c)),(2,vI at_),(7,iS all),(8,vI (cntM c.acts 1 rest n)),(9,vI (cntM c.acts 2 rest m)),(10,vI (i+rest.length:Nat)),(18,vB false)],[],2⟩)
 | [],i,n,m,h,hn,hm=>by
  have hge:all.length≤i:=by simpa using h
  have hlt:ltI (i:Int) (all.length:Int)=false:=ltI_f (by omega)
  rw [loop_eq]
  simp +contextual -dsimp [Tryz.f228,hlt,cntM]
 | x::rest,i,n,m,h,hn,hmm=>by
  obtain ⟨hi,hc,hr⟩:=drop_cons h
  obtain ⟨a,rfl,ha⟩:=hk x (by rw [← hc]; exact List.getElem_mem _)
  have hlt:ltI (i:Int) (all.length:Int)=true:=ltI_t (by omega)
  have hw:IntKind.i64.wrap ((i:Int)+1)=((i+1:Nat):Int):=by rw [wrapI] <;> omega
  have hw2:IntKind.i64.wrap ((n:Int)+1)=((n+1:Nat):Int):=by rw [wrapI] <;> omega
  have hw3:IntKind.i64.wrap ((m:Int)+1)=((m+1:Nat):Int):=by rw [wrapI] <;> omega
  have he:i+1+rest.length=i+(rest.length+1):=by omega
  have hs:=szAt_get ha
  cases q:eqI (c.acts[a]) 1
  ·cases q2:eqI (c.acts[a]) 2
   ·have ih:=lp84 l c at_ hb all hall hk rest (i+1) n m hr (by omega) (by omega)
    rw [he] at ih
    have hm1:cntM c.acts 1 ((a:Int)::rest) n=cntM c.acts 1 rest n:=by simp [cntM,hs,q]
    have hm2:cntM c.acts 2 ((a:Int)::rest) m=cntM c.acts 2 rest m:=by simp [cntM,hs,q2]
    rw [hm1,hm2]
    refine evLoop_next ?_ (by simpa only [List.length_cons] using ih)
    simp (maxSteps:=1000000) +contextual -dsimp [Tryz.f228,hlt,hi,hc,hw,ha,q,q2]
   ·have ih:=lp84 l c at_ hb all hall hk rest (i+1) n (m+1) hr (by omega) (by omega)
    rw [he] at ih
    have hm1:cntM c.acts 1 ((a:Int)::rest) n=cntM c.acts 1 rest n:=by simp [cntM,hs,q]
    have hm2:cntM c.acts 2 ((a:Int)::rest) m=cntM c.acts 2 rest (m+1):=by simp [cntM,hs,q2]
    rw [hm1,hm2]
    refine evLoop_next ?_ (by simpa only [List.length_cons] using ih)
    simp (maxSteps:=1000000) +contextual -dsimp [Tryz.f228,hlt,hi,hc,hw,hw3,ha,q,q2]
  ·have q2:eqI (c.acts[a]) 2=false:=by simp [eqI] at q ⊢; omega
   have ih:=lp84 l c at_ hb all hall hk rest (i+1) (n+1) m hr (by omega) (by omega)
   rw [he] at ih
   have hm1:cntM c.acts 1 ((a:Int)::rest) n=cntM c.acts 1 rest (n+1):=by simp [cntM,hs,q]
   have hm2:cntM c.acts 2 ((a:Int)::rest) m=cntM c.acts 2 rest m:=by simp [cntM,hs,q2]
   rw [hm1,hm2]
   refine evLoop_next ?_ (by simpa only [List.length_cons] using ih)
   simp (maxSteps:=1000000) +contextual -dsimp [Tryz.f228,hlt,hi,hc,hw,hw2,ha,q]
end Go.TM.Ft
namespace Go.TM.Ft
open Go Go.TM Go.Proofs
set_option maxRecDepth 20000
attribute [local congr] gif_cg
attribute [local simp] footOf noClash clash upsets setsHit setHits layHits layMeets setsMeet evFeet
theorem kids4_at {p:Int}:∀ {l:List Step} {i:Nat} {k:Int},k∈kids4M p i l→∃ a:Nat,k=a∧a < i+l.length
 | [],i,k,h=>by simp [kids4M] at h
 | x::l,i,k,h=>by
  unfold kids4M at h
  have tl:k∈kids4M p (i+1) l→∃ a:Nat,k=a∧a < i+(x::l).length:=fun h=>by
   obtain ⟨a,h1,h2⟩:=kids4_at h
   exact ⟨a,h1,by simp; omega⟩
  split at h
  ·rcases List.mem_cons.1 h with rfl | h
   ·exact ⟨i,rfl,by simp⟩
   ·exact tl h
  ·exact tl h
def wrongK (k:Int) (c:Chart) (on over:Int) (list:List Int) (due:Bool):Bool:=
 if orB (eqI k 1) (eqI k 3)=true then orB (orB (notB (eqI on 1)) (ltI 0 over)) due
 else if eqI k 4=true then orB (orB (ltI on 1) (notB (eqI (on+over) list.length))) due
 else if eqI k 8=true then orB (orB (notB (eqI on 1)) (ltI 0 over)) (notB (eqB due (eqI (szAt c.acts (szAt list 0)) 1)))
 else if eqI k 6=true then notB due
 else if eqI k 7=true then true
 else due
def wrong9 (l:List Step) (c:Chart) (i:Nat):Bool:=
 if notB (eqI (szAt c.acts i) 1)=true then orB (ltI 0 ((cntM c.acts 1 (kids4M i 0 l) 0:Nat)+(cntM c.acts 2 (kids4M i 0 l) 0:Nat))) (notB (eqI (szAt c.dues i) 0))
 else wrongK (kindOf l i) c (cntM c.acts 1 (kids4M i 0 l) 0:Nat) (cntM c.acts 2 (kids4M i 0 l) 0:Nat) (kids4M i 0 l) (notB (eqI (szAt c.dues i) 0))
set_option maxHeartbeats 8000000 in
theorem f_l9Wrong (l:List Step) (hl:l.length≤24) (c:Chart) (ha:c.acts.length=l.length) (hd:c.dues.length=l.length) (i:Nat) (hi:i < l.length):
  fo 228 [A (.sl 124 (l.map (sT 219))),A (.ipt (cT c)),A (vI i)]=some (R (vB (wrong9 l c i))):=by
 have g1:=f_l4Kids l (by omega) i
 have hk:∀ k,k∈kids4M i 0 l→∃ a:Nat,k=a∧a < c.acts.length:=fun k h=>by
  obtain ⟨a,h1,h2⟩:=kids4_at h
  exact ⟨a,h1,by omega⟩
 have hfew:=kids4_le i l 0
 have hia:i < c.acts.length:=by omega
 have hid:i < c.dues.length:=by omega
 have hsa:szAt c.acts (i:Int)=c.acts[i]:=szAt_get hia
 have hsd:szAt c.dues (i:Int)=c.dues[i]:=szAt_get hid
 have hki:kindOf l i=(l[i]).kind:=by simp [kindOf,hi]
 have b1:=cnt_le c.acts 1 (kids4M i 0 l) 0
 have b2:=cnt_le c.acts 2 (kids4M i 0 l) 0
 have hlp:=lp84 l c i (by omega) (kids4M i 0 l) (by omega) hk (kids4M i 0 l) 0 0 0 rfl (by omega) (by omega)
 unfold wrong9
 rw [hsa,hsd,hki]
 have hl0:cntM c.acts 1 (kids4M i 0 l) 0=1→0 < (kids4M i 0 l).length:=fun h=>by omega
 generalize hon:cntM c.acts 1 (kids4M i 0 l) 0=on at *
 generalize hov:cntM c.acts 2 (kids4M i 0 l) 0=ov at *
 have hw:IntKind.i64.wrap ((on:Int)+ov)=(on:Int)+ov:=by rw [wrapI] <;> omega
 generalize kids4M i 0 l=ks at *
 have hse:=seal4_iE ks
 refine orc_228 (ks.length+1) ?_
 simp -dsimp [Tryz.f228] at hlp
 cases q2:eqI c.acts[i] 1
 ·simp (maxSteps:=1000000) +contextual -dsimp [Tryz.f228,g1,hse,hlp,hia,hid,q2,hw]
 ·cases e1:eqI (l[i].kind) 1
  ·cases e3:eqI (l[i].kind) 3
   ·cases e4:eqI (l[i].kind) 4
    ·cases e8:eqI (l[i].kind) 8
     ·cases e6:eqI (l[i].kind) 6
      ·cases e7:eqI (l[i].kind) 7
       ·simp (maxSteps:=1000000) +contextual -dsimp [Tryz.f228,g1,hse,hlp,hia,hid,hi,q2,wrongK,e1,e3,e4,e8,e6,e7]
       ·simp (maxSteps:=1000000) +contextual -dsimp [Tryz.f228,g1,hse,hlp,hia,hid,hi,q2,wrongK,e1,e3,e4,e8,e6,e7]
      ·simp (maxSteps:=1000000) +contextual -dsimp [Tryz.f228,g1,hse,hlp,hia,hid,hi,q2,wrongK,e1,e3,e4,e8,e6]
     ·cases o1:eqI (on:Int) 1
      ·simp (maxSteps:=1000000) +contextual -dsimp [Tryz.f228,g1,hse,hlp,hia,hid,hi,q2,wrongK,e1,e3,e4,e8,o1]
      ·have hpos:0 < ks.length:=hl0 (by simp [eqI] at o1; omega)
       obtain ⟨a,ka,hla⟩:=hk (ks[0]) (List.getElem_mem _)
       have hs0:szAt ks 0=ks[0]:=szAt_get hpos
       have hs1:szAt c.acts (a:Int)=c.acts[a]:=szAt_get hla
       cases o2:ltI 0 (ov:Int)
       ·simp (maxSteps:=1000000) +contextual -dsimp [Tryz.f228,g1,hse,hlp,hia,hid,hi,q2,wrongK,e1,e3,e4,e8,o1,o2,hpos,hs0,ka,hs1,hla]
       ·simp (maxSteps:=1000000) +contextual -dsimp [Tryz.f228,g1,hse,hlp,hia,hid,hi,q2,wrongK,e1,e3,e4,e8,o1,o2,hs0,ka,hs1]
    ·simp (maxSteps:=1000000) +contextual -dsimp [Tryz.f228,g1,hse,hlp,hia,hid,hi,q2,hw,wrongK,e1,e3,e4]
   ·simp (maxSteps:=1000000) +contextual -dsimp [Tryz.f228,g1,hse,hlp,hia,hid,hi,q2,wrongK,e1,e3]
  ·simp (maxSteps:=1000000) +contextual -dsimp [Tryz.f228,g1,hse,hlp,hia,hid,hi,q2,wrongK,e1]
end Go.TM.Ft
namespace Go.TM.Ft
open Go Go.TM Go.Proofs
set_option maxRecDepth 20000
attribute [local congr] gif_cg
attribute [local simp] footOf noClash clash upsets setsHit setHits layHits layMeets setsMeet evFeet
def rng9 (c:Chart) (i:Nat):Bool:=orB (notB (inR (szAt c.acts i) 0 2)) (notB (inR (szAt c.dues i) 0 (c.now+99)))
def rngs9 (c:Chart):Nat→Nat→Bool
 | 0,_=>false
 | f+1,i=>if rng9 c i=true then true else rngs9 c f (i+1)
def some1 (c:Chart) (i:Nat) (s:Bool):Bool:=orB (orB s (notB (eqI (szAt c.acts i) 0))) (notB (eqI (szAt c.dues i) 0))
def some9 (c:Chart):Nat→Nat→Bool→Bool
 | 0,_,s=>s
 | f+1,i,s=>some9 c f (i+1) (some1 c i s)
set_option maxHeartbeats 2000000 in
theorem lp66a (l : List Step) (hl : l.length ≤ 24) (c : Chart) (ha : c.acts.length = l.length) (hd : c.dues.length = l.length) (hn0 : 0 ≤ c.now) (hn1 : c.now ≤ 1000000) : ∀ (f i : Nat) (s : Bool), i + f = l.length →
    evLoop E (orc E) (163 : Nat) (f + 1) (loopOf Tryz.f163 0) ⟨130, [(0, .sl 124 (l.map (sT 219))), (1, .ipt (cT c)), (7, vB s), (8, vI i)], [], 2⟩ =
    (if rngs9 c f i = true then some (.ret, ⟨130, [(4, vI 3)], [], 2⟩)
     else some (.exit 0, ⟨130, [(0, .sl 124 (l.map (sT 219))), (1, .ipt (cT c)), (7, vB (some9 c f i s)), (8, vI l.length), (58, vB false)], [], 2⟩))
  | 0, i, s, h => by
    have e : i = l.length := by omega
    subst e
    have hlt : ltI (l.length : Int) (l.length : Int) = false := ltI_f (by omega)
    rw [loop_eq]
    simp +contextual -dsimp [Tryz.f163, hlt, rngs9, some9]
  | f + 1, i, s, h => by
    have hi : i < l.length := by omega
    have hia : i < c.acts.length := by omega
    have hid : i < c.dues.length := by omega
    have hsa : szAt c.acts (i : Int) = c.acts[i] := szAt_get hia
    have hsd : szAt c.dues (i : Int) = c.dues[i] := szAt_get hid
    have hlt : ltI (i : Int) (l.length : Int) = true := ltI_t (by omega)
    have hw : IntKind.i64.wrap ((i : Int) + 1) = ((i + 1 : Nat) : Int) := by rw [wrapI] <;> omega
    have hw2 : IntKind.i64.wrap (c.now + 99) = c.now + 99 := by rw [wrapI] <;> omega
    cases q : inR c.acts[i] 0 2
    · have hm : rngs9 c (f + 1) i = true := by simp [rngs9, rng9, hsa, q, notB, orB]
      rw [hm, if_pos rfl]
      refine evLoop_out ?_ (by simp)
      simp (maxSteps := 1000000) +contextual -dsimp [Tryz.f163, hlt, hia, f_l1In, q]
    · cases q2 : inR c.dues[i] 0 (c.now + 99)
      · have hm : rngs9 c (f + 1) i = true := by simp [rngs9, rng9, hsa, hsd, q, q2, notB, orB]
        rw [hm, if_pos rfl]
        refine evLoop_out ?_ (by simp)
        simp (maxSteps := 1000000) +contextual -dsimp [Tryz.f163, hlt, hia, hid, hw2, f_l1In, q, q2]
      · have ih := lp66a l hl c ha hd hn0 hn1 f (i + 1) (some1 c i s) (by omega)
        have hm : rngs9 c (f + 1) i = rngs9 c f (i + 1) := by simp [rngs9, rng9, hsa, hsd, q, q2, notB, orB]
        have hm2 : some9 c (f + 1) i s = some9 c f (i + 1) (some1 c i s) := rfl
        rw [hm, hm2]
        refine evLoop_next ?_ ih
        unfold some1
        rw [hsa, hsd]
        simp (maxSteps := 1000000) +contextual -dsimp [Tryz.f163, hlt, hia, hid, hw, hw2, f_l1In, q, q2]
def wrongs9 (l:List Step) (c:Chart):Nat→Nat→Bool
 | 0,_=>false
 | f+1,i=>if wrong9 l c i=true then true else wrongs9 l c f (i+1)
theorem lp66b (l : List Step) (hl : l.length ≤ 24) (c : Chart) (ha : c.acts.length = l.length) (hd : c.dues.length = l.length) : ∀ (f i : Nat), i + f = l.length →
    evLoop E (orc E) (163 : Nat) (f + 1) (loopOf Tryz.f163 1) ⟨130, [(0, .sl 124 (l.map (sT 219))), (1, .ipt (cT c)), (9, vI i)], [], 2⟩ =
    (if wrongs9 l c f i = true then some (.ret, ⟨130, [(4, vI 1)], [], 2⟩)
     else some (.exit 2, ⟨130, [(0, .sl 124 (l.map (sT 219))), (1, .ipt (cT c)), (9, vI l.length), (123, vB false)], [], 2⟩))
  | 0, i, h => by
    have e : i = l.length := by omega
    subst e
    have hlt : ltI (l.length : Int) (l.length : Int) = false := ltI_f (by omega)
    rw [loop_eq]
    simp +contextual -dsimp [Tryz.f163, hlt, wrongs9]
  | f + 1, i, h => by
    have hi : i < l.length := by omega
    have hlt : ltI (i : Int) (l.length : Int) = true := ltI_t (by omega)
    have hw : IntKind.i64.wrap ((i : Int) + 1) = ((i + 1 : Nat) : Int) := by rw [wrapI] <;> omega
    have g := f_l9Wrong l hl c ha hd i hi
    cases q : wrong9 l c i
    · have ih := lp66b l hl c ha hd f (i + 1) (by omega)
      have hm : wrongs9 l c (f + 1) i = wrongs9 l c f (i + 1) := by simp [wrongs9, q]
      rw [hm]
      refine evLoop_next ?_ ih
      simp (maxSteps := 1000000) +contextual -dsimp [Tryz.f163, hlt, g, q, hw]
    · have hm : wrongs9 l c (f + 1) i = true := by simp [wrongs9, q]
      rw [hm, if_pos rfl]
      refine evLoop_out ?_ (by simp)
      simp (maxSteps := 1000000) +contextual -dsimp [Tryz.f163, hlt, g, q]
def fault9 (l:List Step) (c:Chart):Int:=
 if notB (eqI (fault4M l) 0)=true then fault4M l
 else if orB (notB (inR c.status 1 3)) (notB (inR c.now 0 1000000))=true then 3
 else if notB (eqI (vars4M c.vars) 0)=true then vars4M c.vars
 else if orB (notB (eqI c.acts.length l.length)) (notB (eqI c.dues.length l.length))=true then 2
 else if rngs9 c l.length 0=true then 3
 else if notB (eqI c.status 1)=true then (if some9 c l.length 0 false=true then 1 else 0)
 else if notB (eqI (szAt c.acts 0) 1)=true then 1
 else if wrongs9 l c l.length 0=true then 1 else 0
theorem fault4_pos {l:List Step} (h:fault4M l=0):1≤l.length∧l.length≤24:=by
 unfold fault4M at h
 split at h
 ·simp at h
 ·rename_i c; simp [orB,ltI] at c; omega
set_option maxHeartbeats 8000000 in
theorem f_l9Fault (l:List Step) (hl:l.length < 2 ^ 62) (hf:FitX l) (c:Chart):fo 163 [A (.sl 124 (l.map (sT 219))),A (.ipt (cT c))]=some (R (vI (fault9 l c))):=by
 have g1:=f_l4Fault l hl hf
 have g2:=f_Vars4 c.vars
 unfold fault9
 refine orc_163 (l.length+1) ?_
 cases q1:eqI (fault4M l) 0
 ·simp (maxSteps:=1000000) +contextual -dsimp [Tryz.f163,g1,q1]
 ·have e0:fault4M l=0:=by simpa [eqI] using q1
  obtain ⟨p1,p2⟩:=fault4_pos e0
  cases q2:inR c.status 1 3
  ·simp (maxSteps:=1000000) +contextual -dsimp [Tryz.f163,g1,e0,eqI_self,f_l1In,q2]
  ·cases q3:inR c.now 0 1000000
   ·simp (maxSteps:=1000000) +contextual -dsimp [Tryz.f163,g1,e0,eqI_self,f_l1In,f_l8Time,q2,q3]
   ·cases q4:eqI (vars4M c.vars) 0
    ·simp (maxSteps:=1000000) +contextual -dsimp [Tryz.f163,g1,g2,e0,eqI_self,f_l1In,f_l8Time,q2,q3,q4]
    ·have e1:vars4M c.vars=0:=by simpa [eqI] using q4
     cases q5:eqI c.acts.length l.length
     ·simp (maxSteps:=1000000) +contextual -dsimp [Tryz.f163,g1,g2,e0,e1,eqI_self,f_l1In,f_l8Time,q2,q3,q5]
     ·cases q6:eqI c.dues.length l.length
      ·simp (maxSteps:=1000000) +contextual -dsimp [Tryz.f163,g1,g2,e0,e1,eqI_self,f_l1In,f_l8Time,q2,q3,q5,q6]
      ·have ha:c.acts.length=l.length:=by simp [eqI] at q5; omega
       have hd:c.dues.length=l.length:=by simp [eqI] at q6; omega
       have hn:0≤c.now∧c.now≤1000000:=by simp [inR,andB,leI] at q3; omega
       have hlp:=lp66a l p2 c ha hd hn.1 hn.2 l.length 0 false (by omega)
       have hlq:=lp66b l p2 c ha hd l.length 0 (by omega)
       have ha0:0 < c.acts.length:=by omega
       have hs:szAt c.acts 0=c.acts[0]:=szAt_get ha0
       simp -dsimp [Tryz.f163] at hlp hlq
       cases q7:rngs9 c l.length 0
       ·rw [q7] at hlp
        cases q8:eqI c.status 1
        ·cases q9:some9 c l.length 0 false
         ·rw [q9] at hlp
          simp (maxSteps:=1000000) +contextual -dsimp [Tryz.f163,g1,g2,e0,e1,eqI_self,f_l1In,f_l8Time,q2,q3,q5,q6,q8,hlp]
         ·rw [q9] at hlp
          simp (maxSteps:=1000000) +contextual -dsimp [Tryz.f163,g1,g2,e0,e1,eqI_self,f_l1In,f_l8Time,q2,q3,q5,q6,q8,hlp]
        ·rw [hs]
         cases q10:eqI c.acts[0] 1
         ·simp (maxSteps:=1000000) +contextual -dsimp [Tryz.f163,g1,g2,e0,e1,eqI_self,f_l1In,f_l8Time,q2,q3,q5,q6,q8,q10,ha0,hlp]
         ·cases q11:wrongs9 l c l.length 0
          ·rw [q11] at hlq
           simp (maxSteps:=1000000) +contextual -dsimp [Tryz.f163,g1,g2,e0,e1,eqI_self,f_l1In,f_l8Time,q2,q3,q5,q6,q8,q10,ha0,hlp,hlq]
          ·rw [q11] at hlq
           simp (maxSteps:=1000000) +contextual -dsimp [Tryz.f163,g1,g2,e0,e1,eqI_self,f_l1In,f_l8Time,q2,q3,q5,q6,q8,q10,ha0,hlp,hlq]
       ·rw [q7] at hlp
        simp (maxSteps:=1000000) +contextual -dsimp [Tryz.f163,g1,g2,e0,e1,eqI_self,f_l1In,f_l8Time,q2,q3,q5,q6,hlp]
end Go.TM.Ft
namespace Go.TM.Ft
open Go Go.TM Go.Proofs
set_option maxRecDepth 20000
attribute [local congr] gif_cg
attribute [local simp] footOf noClash clash upsets setsHit setHits layHits layMeets setsMeet evFeet
theorem FitP.x {p:List Step} (h:FitP p):FitX p:=fun s hs=>⟨(h.steps s hs).name,(h.steps s hs).cond,(h.steps s hs).expr⟩
def procs4M:List (List Step)→Int
 | []=>0
 | p::r=>if notB (eqI (fault4M p) 0)=true then fault4M p else procs4M r
theorem lp64 (all : List (List Step)) (hall : all.length ≤ 1000) (hf : ∀ p, p ∈ all → FitP p) : ∀ (rest : List (List Step)) (i : Nat), all.drop i = rest →
    evLoop E (orc E) (181 : Nat) (rest.length + 1) (loopOf Tryz.f181 0) ⟨28, [(0, .sl 160 (all.map (pT 124 219))), (3, vI i)], [], 2⟩ =
    (if eqI (procs4M rest) 0 = true then some (.exit 0, ⟨28, [(0, .sl 160 (all.map (pT 124 219))), (3, vI (i + rest.length : Nat)), (16, vB false)], [], 2⟩)
     else some (.ret, ⟨28, [(2, vI (procs4M rest))], [], 2⟩))
  | [], i, h => by
    have hge : all.length ≤ i := by simpa using h
    have hlt : ltI (i : Int) (all.length : Int) = false := ltI_f (by omega)
    rw [loop_eq]
    simp +contextual -dsimp [Tryz.f181, hlt, procs4M, eqI_self]
  | s :: rest, i, h => by
    obtain ⟨hi, hc, hr⟩ := drop_cons h
    have hlt : ltI (i : Int) (all.length : Int) = true := ltI_t (by omega)
    have hw : IntKind.i64.wrap ((i : Int) + 1) = ((i + 1 : Nat) : Int) := by rw [wrapI] <;> omega
    have he : i + 1 + rest.length = i + (rest.length + 1) := by omega
    have hs := hf s (by rw [← hc]; exact List.getElem_mem _)
    have g := f_l4Fault s hs.len hs.x
    cases q : eqI (fault4M s) 0
    · have hm : procs4M (s :: rest) = fault4M s := by simp [procs4M, q, notB]
      rw [hm, q, if_neg (by simp)]
      refine evLoop_out ?_ (by simp)
      simp (maxSteps := 1000000) +contextual -dsimp [Tryz.f181, hlt, hi, hc, g, q]
    · have ih := lp64 all hall hf rest (i + 1) hr
      rw [he] at ih
      have hm : procs4M (s :: rest) = procs4M rest := by simp [procs4M, q, notB]
      rw [hm]
      refine evLoop_next ?_ (by simpa only [List.length_cons] using ih)
      simp (maxSteps := 1000000) +contextual -dsimp [Tryz.f181, hlt, hi, hc, hw, g, q]
def procs4F (ps:List (List Step)):Int:=if orB (ltI ps.length 1) (ltI 3 ps.length)=true then 2 else procs4M ps
theorem f_l11Procs (ps:List (List Step)) (hps:ps.length < 2 ^ 62) (hf:∀ p,p∈ps→FitP p):fo 181 [A (.sl 160 (ps.map (pT 124 219)))]=some (R (vI (procs4F ps))):=by
 unfold procs4F
 cases c1:orB (ltI ps.length 1) (ltI 3 ps.length)
 ·have hl:ps.length≤1000:=by simp [orB,ltI] at c1; omega
  have hlp:=lp64 ps hl hf ps 0 rfl
  refine orc_181 (ps.length+1) ?_
  simp -dsimp [Tryz.f181] at hlp
  cases c2:eqI (procs4M ps) 0
  ·rw [c2] at hlp
   simp (maxSteps:=1000000) +contextual -dsimp [Tryz.f181,c1,hlp]
  ·rw [c2] at hlp
   have e0:procs4M ps=0:=by simpa [eqI] using c2
   simp (maxSteps:=1000000) +contextual -dsimp [Tryz.f181,c1,e0,hlp]
 ·refine orc_181 1 ?_
  simp (maxSteps:=1000000) +contextual -dsimp [Tryz.f181,c1]
def inst4M (e:Engine) (x:Inst):Int:=
 if notB (inR x.proc 0 ((e.procs.length:Int) - 1))=true then 3
 else if notB (eqI (fault9 (stepsOf e x) x.chart) 0)=true then fault9 (stepsOf e x) x.chart
 else if notB (eqI x.chart.now e.now)=true then 9 else 0
def insts4M (e:Engine):List Inst→Int
 | []=>0
 | x::r=>if eqI (inst4M e x) 0=true then insts4M e r else inst4M e x
set_option maxHeartbeats 2000000 in
theorem lp38 (e : Engine) (tl : List T) (hf : FitE e) : ∀ (rest : List Inst) (i : Nat), e.insts.drop i = rest →
    evLoop E (orc E) (107 : Nat) (rest.length + 1) (loopOf Tryz.f107 0) ⟨82, [(0, .ipt (.sl 160 (e.procs.map (pT 124 219)) :: .sl 163 (e.insts.map xT) :: vI e.now :: tl)), (4, vI i)], [], 2⟩ =
    (if eqI (insts4M e rest) 0 = true then some (.exit 0, ⟨82, [(0, .ipt (.sl 160 (e.procs.map (pT 124 219)) :: .sl 163 (e.insts.map xT) :: vI e.now :: tl)), (4, vI (i + rest.length : Nat)), (33, vB false)], [], 2⟩)
     else some (.ret, ⟨82, [(2, vI (insts4M e rest))], [], 2⟩))
  | [], i, h => by
    have hge : e.insts.length ≤ i := by simpa using h
    have hlt : ltI (i : Int) (e.insts.length : Int) = false := ltI_f (by omega)
    rw [loop_eq]
    simp +contextual -dsimp [Tryz.f107, hlt, insts4M, eqI_self]
  | x :: rest, i, h => by
    obtain ⟨hi, hc, hr⟩ := drop_cons h
    have hni := hf.ni
    have hnp := hf.np
    have hlt : ltI (i : Int) (e.insts.length : Int) = true := ltI_t (by omega)
    have hw : IntKind.i64.wrap ((i : Int) + 1) = ((i + 1 : Nat) : Int) := by rw [wrapI] <;> omega
    have hw2 : IntKind.i64.wrap ((e.procs.length : Int) - 1) = (e.procs.length : Int) - 1 := by rw [wrapI] <;> omega
    have he : i + 1 + rest.length = i + (rest.length + 1) := by omega
    have out : ∀ k : Int, inst4M e x = k → eqI k 0 = false → insts4M e (x :: rest) = k := fun k h1 h2 => by simp [insts4M, h1, h2]
    cases q1 : inR x.proc 0 ((e.procs.length : Int) - 1)
    · have hm := out 3 (by simp [inst4M, q1, notB]) rfl
      have h30 : eqI (3 : Int) 0 = false := rfl
      rw [hm, h30, if_neg (by simp)]
      refine evLoop_out ?_ (by simp)
      simp (maxSteps := 1000000) +contextual -dsimp [Tryz.f107, hlt, hi, hc, hw2, f_l1In, q1]
    · obtain ⟨a, hx, ha⟩ : ∃ a : Nat, x.proc = a ∧ a < e.procs.length := by
        simp [inR, andB, leI] at q1
        obtain ⟨k, hk⟩ := Int.eq_ofNat_of_zero_le q1.1
        exact ⟨k, hk, by omega⟩
      have q1' := q1
      rw [hx] at q1'
      have hp := hf.procs (e.procs[a]) (List.getElem_mem _)
      have e2 : stepsOf e x = e.procs[a] := by simp [stepsOf, hx, ha]
      have g2 := f_l9Fault (e.procs[a]) hp.len hp.x x.chart
      cases q2 : eqI (fault9 (e.procs[a]) x.chart) 0
      · have hm := out (fault9 (e.procs[a]) x.chart) (by simp [inst4M, q1, e2, q2, notB]) q2
        rw [hm, q2, if_neg (by simp)]
        refine evLoop_out ?_ (by simp)
        simp (maxSteps := 1000000) +contextual -dsimp [Tryz.f107, hlt, hi, hc, hw2, f_l1In, hx, ha, q1', g2, q2]
      · cases q3 : eqI x.chart.now e.now
        · have hm := out 9 (by simp [inst4M, q1, e2, q2, q3, notB]) rfl
          have h30 : eqI (9 : Int) 0 = false := rfl
          rw [hm, h30, if_neg (by simp)]
          refine evLoop_out ?_ (by simp)
          simp (maxSteps := 1000000) +contextual -dsimp [Tryz.f107, hlt, hi, hc, hw2, f_l1In, hx, ha, q1', g2, q2, q3]
        · have h3 : inst4M e x = 0 := by simp [inst4M, q1, e2, q2, q3, notB]
          have ih := lp38 e tl hf rest (i + 1) hr
          rw [he] at ih
          have hm : insts4M e (x :: rest) = insts4M e rest := by simp [insts4M, h3, eqI_self]
          rw [hm]
          refine evLoop_next ?_ (by simpa only [List.length_cons] using ih)
          simp (maxSteps := 1000000) +contextual -dsimp [Tryz.f107, hlt, hi, hc, hw, hw2, f_l1In, hx, ha, q1', g2, q2, q3]
def eng4M (e:Engine):Int:=
 if ltI 6 e.insts.length=true then 2
 else if notB (eqI (procs4F e.procs) 0)=true then procs4F e.procs
 else if notB (inR e.now 0 1000000)=true then 3
 else insts4M e e.insts
set_option maxHeartbeats 2000000 in
theorem f_l11Fault (e:Engine) (tl:List T) (hf:FitE e):fo 107 [A (.ipt (.sl 160 (e.procs.map (pT 124 219))::.sl 163 (e.insts.map xT)::vI e.now::tl))]=some (R (vI (eng4M e))):=by
 have g1:=f_l11Procs e.procs hf.np hf.procs
 have hlp:=lp38 e tl hf e.insts 0 rfl
 simp -dsimp [Tryz.f107] at hlp
 unfold eng4M
 refine orc_107 (e.insts.length+1) ?_
 cases q1:ltI 6 e.insts.length
 ·cases q2:eqI (procs4F e.procs) 0
  ·simp (maxSteps:=1000000) +contextual -dsimp [Tryz.f107,g1,q1,q2]
  ·have e0:procs4F e.procs=0:=by simpa [eqI] using q2
   cases q3:inR e.now 0 1000000
   ·simp (maxSteps:=1000000) +contextual -dsimp [Tryz.f107,f_l8Time,g1,q1,e0,eqI_self,q3]
   ·cases q4:eqI (insts4M e e.insts) 0
    ·rw [q4] at hlp
     simp (maxSteps:=1000000) +contextual -dsimp [Tryz.f107,f_l8Time,g1,q1,e0,eqI_self,q3,hlp]
    ·rw [q4] at hlp
     have e1:insts4M e e.insts=0:=by simpa [eqI] using q4
     simp (maxSteps:=1000000) +contextual -dsimp [Tryz.f107,f_l8Time,g1,q1,e0,eqI_self,q3,e1,hlp]
 ·simp (maxSteps:=1000000) +contextual -dsimp [Tryz.f107,q1]
theorem f_l12User (n:Int):fo 174 [A (vI n)]=some (R (vB (inR n 1 9))):=by
 refine orc_174 1 ?_
 simp (maxSteps:=1000000) +contextual -dsimp [Tryz.f174,f_l1In]
def aheadM (a b:Claim):Bool:=orB (ltI a.inst b.inst) (andB (eqI a.inst b.inst) (ltI a.step b.step))
theorem f_l12Ahead (a b:Claim):fo 133 [A (.agg (kT a)),A (.agg (kT b))]=some (R (vB (aheadM a b))):=by
 unfold aheadM
 refine orc_133 1 ?_
 simp (maxSteps:=1000000) +contextual -dsimp [Tryz.f133]
theorem f_l12Open (e:Engine) (tl:List T) (i:Nat) (hi:i < e.insts.length) (a:Nat) (hx:(e.insts[i]).proc=a) (ha:a < e.procs.length) (hl:(e.procs[a]).length < 2 ^ 62)
  (hc:(e.insts[i]).chart.acts.length=(e.procs[a]).length) (step:Int):
  fo 175 [A (.ipt (.sl 160 (e.procs.map (pT 124 219))::.sl 163 (e.insts.map xT)::vI e.now::tl)),A (vI i),A (vI step)]=some (R (vB (isOpenM e i step))):=by
 have e1:instAt e i=e.insts[i]:=by simp [instAt,hi]
 have e2:stepsOf e (e.insts[i])=e.procs[a]:=by simp [stepsOf,hx,ha]
 have hw:IntKind.i64.wrap (((e.procs[a]).length:Int) - 1)=((e.procs[a]).length:Int) - 1:=by rw [wrapI] <;> omega
 unfold isOpenM
 rw [e1,e2]
 unfold openM
 refine orc_175 1 ?_
 cases q:inR step 0 (((e.procs[a]).length:Int) - 1)
 ·simp (maxSteps:=1000000) +contextual -dsimp [Tryz.f175,f_l1In,hi,hx,ha,hw,q]
 ·obtain ⟨k,rfl,hk⟩:∃ k:Nat,step=k∧k < (e.procs[a]).length:=by
   simp [inR,andB,leI] at q
   obtain ⟨k,rfl⟩:=Int.eq_ofNat_of_zero_le q.1
   exact ⟨k,rfl,by omega⟩
  have hka:k < (e.insts[i]).chart.acts.length:=by omega
  have hs:szAt (e.insts[i]).chart.acts (k:Int)=(e.insts[i]).chart.acts[k]:=szAt_get hka
  have hki:kindOf (e.procs[a]) k=((e.procs[a])[k]).kind:=by simp [kindOf,hk]
  simp (maxSteps:=1000000) +contextual -dsimp [Tryz.f175,f_l1In,hi,hx,ha,hw,q,hk,hka,hs,hki]
end Go.TM.Ft
namespace Go.TM.Ft
open Go Go.TM Go.Proofs
set_option maxRecDepth 20000
theorem idxM_any (p:Int→Bool):∀ (l:List Int) (i:Nat),leI 0 (idxM p i l)=l.any p
 | [],i=>by simp [idxM,leI]
 | x::l,i=>by
  have ih:=idxM_any p l (i+1)
  unfold idxM
  cases h:p x
  ·simp [ih,h]
  ·simp [h,leI]
theorem hasB_any (p:Int→Bool) (l:List Int):hasB p l=l.any p:=idxM_any p l 0
theorem anyV_any:∀ (l:List Int),anyV l=l.any badV
 | []=>rfl
 | x::l=>by
  unfold anyV
  rw [anyV_any l]
  cases h:badV x <;> simp [h]
theorem vars_same (l:List Int):vars4M l=varsM l:=by
 unfold vars4M varsM
 rw [anyV_any,hasB_any]
 cases eqI l.length 4 <;> cases l.any badV <;> rfl
theorem any_at {l:List Int} {p:Int→Bool}:l.any p=true ↔ ∃ i,i < l.length∧p (szAt l i)=true:=by
 rw [List.any_eq_true]
 constructor
 ·rintro ⟨x,hx,hp⟩
  obtain ⟨i,hi,he⟩:=List.getElem_of_mem hx
  exact ⟨i,hi,by rw [szAt_get hi,he]; exact hp⟩
 ·rintro ⟨i,hi,hp⟩
  rw [szAt_get hi] at hp
  exact ⟨_,List.getElem_mem hi,hp⟩
theorem rngs_iff (c:Chart):∀ (f i:Nat),rngs9 c f i=true ↔ ∃ k,i≤k∧k < i+f∧rng9 c k=true
 | 0,i=>by simp [rngs9]; omega
 | f+1,i=>by
  unfold rngs9
  have ih:=rngs_iff c f (i+1)
  cases h:rng9 c i
  ·simp only [Bool.false_eq_true,if_false]
   rw [ih]
   constructor
   ·rintro ⟨k,h1,h2,h3⟩; exact ⟨k,by omega,by omega,h3⟩
   ·rintro ⟨k,h1,h2,h3⟩
    rcases Nat.lt_or_ge i k with h' | h'
    ·exact ⟨k,h',by omega,h3⟩
    ·have e:k=i:=by omega
     subst e; rw [h] at h3; simp at h3
  ·simp only [if_true,true_iff]
   exact ⟨i,Nat.le_refl _,by omega,h⟩
theorem some_iff (c:Chart):∀ (f i:Nat) (s:Bool),some9 c f i s=true ↔ s=true∨∃ k,i≤k∧k < i+f∧(szAt c.acts k≠0∨szAt c.dues k≠0)
 | 0,i,s=>by
  simp only [some9]
  constructor
  ·exact .inl
  ·rintro (h | ⟨k,h1,h2,_⟩)
   ·exact h
   ·omega
 | f+1,i,s=>by
  have ih:=some_iff c f (i+1) (some1 c i s)
  unfold some9
  rw [ih]
  have h1:some1 c i s=true ↔ s=true∨szAt c.acts i≠0∨szAt c.dues i≠0:=by
   simp [some1,orB,notB,eqI,or_assoc]
  rw [h1]
  constructor
  ·rintro ((h | h) | ⟨k,a,b,h⟩)
   ·exact .inl h
   ·exact .inr ⟨i,Nat.le_refl _,by omega,h⟩
   ·exact .inr ⟨k,by omega,by omega,h⟩
  ·rintro (h | ⟨k,a,b,h⟩)
   ·exact .inl (.inl h)
   ·rcases Nat.lt_or_ge i k with h' | h'
    ·exact .inr ⟨k,h',by omega,h⟩
    ·have e:k=i:=by omega
     subst e; exact .inl (.inr h)
theorem small_iff {m:Int} {l:List Int}:smS m l=false ↔ ∃ i,i < l.length∧inR (szAt l i) 0 m=false:=by
 unfold smS
 rw [hasB_any]
 have:notB (l.any (badS m))=false ↔ l.any (badS m)=true:=by simp [notB]
 rw [this,any_at]
 simp [badS,notB]
theorem rng_same {c:Chart} {n:Nat} (ha:c.acts.length=n) (hd:c.dues.length=n):rngs9 c n 0=orB (notB (smS 2 c.acts)) (notB (smS (c.now+99) c.dues)):=by
 rw [Bool.eq_iff_iff,rngs_iff]
 have e1:orB (notB (smS 2 c.acts)) (notB (smS (c.now+99) c.dues))=true ↔ smS 2 c.acts=false∨smS (c.now+99) c.dues=false:=by simp [orB,notB]
 rw [e1,small_iff,small_iff]
 have e2:∀ k,rng9 c k=true ↔ inR (szAt c.acts k) 0 2=false∨inR (szAt c.dues k) 0 (c.now+99)=false:=fun k=>by simp [rng9,orB,notB]
 constructor
 ·rintro ⟨k,_,h2,h3⟩
  rcases (e2 k).1 h3 with h | h
  ·exact .inl ⟨k,by omega,h⟩
  ·exact .inr ⟨k,by omega,h⟩
 ·rintro (⟨k,h2,h3⟩ | ⟨k,h2,h3⟩)
  ·exact ⟨k,Nat.zero_le _,by omega,(e2 k).2 (.inl h3)⟩
  ·exact ⟨k,Nat.zero_le _,by omega,(e2 k).2 (.inr h3)⟩
theorem some_same {c:Chart} {n:Nat} (ha:c.acts.length=n) (hd:c.dues.length=n):some9 c n 0 false=notB (andB (smS 0 c.acts) (smS 0 c.dues)):=by
 rw [Bool.eq_iff_iff,some_iff]
 have e1:notB (andB (smS 0 c.acts) (smS 0 c.dues))=true ↔ smS 0 c.acts=false∨smS 0 c.dues=false:=by
  cases smS 0 c.acts <;> cases smS 0 c.dues <;> simp [notB,andB]
 have e2:∀ x:Int,inR x 0 0=false ↔ x≠0:=fun x=>by
  by_cases h:x=0
  ·simp [inR,andB,leI,h]
  ·have:¬ (0≤x∧x≤0):=by omega
   simp [inR,andB,leI,h]; omega
 rw [e1,small_iff,small_iff]
 simp only [e2,Bool.false_eq_true,false_or]
 constructor
 ·rintro ⟨k,_,h2,h | h⟩
  ·exact .inl ⟨k,by omega,h⟩
  ·exact .inr ⟨k,by omega,h⟩
 ·rintro (⟨k,h2,h3⟩ | ⟨k,h2,h3⟩)
  ·exact ⟨k,Nat.zero_le _,by omega,.inl h3⟩
  ·exact ⟨k,Nat.zero_le _,by omega,.inr h3⟩
theorem cnt_pos (acts:List Int) (act:Int):∀ (l:List Int) (n:Nat),n < cntM acts act l n ↔ ∃ k,k∈l∧szAt acts k=act
 | [],n=>by simp [cntM]
 | x::l,n=>by
  unfold cntM
  cases h:eqI (szAt acts x) act
  ·simp only [Bool.false_eq_true,if_false]
   rw [cnt_pos acts act l n]
   have hx:szAt acts x≠act:=by simpa [eqI] using h
   simp [hx]
  ·simp only [if_true]
   have hx:szAt acts x=act:=by simpa [eqI] using h
   have h1:=cnt_pos acts act l (n+1)
   have h2:n+1≤cntM acts act l (n+1):=by
    clear h1 h hx
    have:∀ (l:List Int) (m:Nat),m≤cntM acts act l m:=by
     intro l
     induction l with
     | nil=>intro m; simp [cntM]
     | cons y l ih=>
      intro m
      unfold cntM
      split
      ·have:=ih (m+1); omega
      ·exact ih m
    exact this l (n+1)
   constructor
   ·intro _; exact ⟨x,by simp,hx⟩
   ·intro _; omega
theorem kids4_iff {p:Int}:∀ {l:List Step} {i:Nat} {k:Int},k∈kids4M p i l ↔ ∃ (a:Nat) (h:a < l.length),k=(i+a:Nat)∧(l[a]).parent=p
 | [],i,k=>by simp [kids4M]
 | x::l,i,k=>by
  have ih:=kids4_iff (p:=p) (l:=l) (i:=i+1) (k:=k)
  have tl:(∃ (a:Nat) (h:a < l.length),k=(i+1+a:Nat)∧(l[a]).parent=p) ↔ ∃ (a:Nat) (h:a < (x::l).length),k=(i+a:Nat)∧((x::l)[a]).parent=p∧0 < a:=by
   constructor
   ·rintro ⟨a,h,h1,h2⟩
    exact ⟨a+1,by simp; omega,by omega,by simpa using h2,by omega⟩
   ·rintro ⟨a,h,h1,h2,h3⟩
    cases a with
    | zero=>omega
    | succ a=>exact ⟨a,by simpa using h,by omega,by simpa using h2⟩
  unfold kids4M
  cases h:eqI x.parent p
  ·simp only [Bool.false_eq_true,if_false]
   rw [ih,tl]
   constructor
   ·rintro ⟨a,h,h1,h2,_⟩; exact ⟨a,h,h1,h2⟩
   ·rintro ⟨a,ha,h1,h2⟩
    refine ⟨a,ha,h1,h2,?_⟩
    cases a with
    | zero=>simp [eqI] at h; simp at h2; exact absurd h2 h
    | succ a=>omega
  ·simp only [if_true,List.mem_cons]
   rw [ih,tl]
   constructor
   ·rintro (h1 | ⟨a,h,h1,h2,_⟩)
    ·exact ⟨0,by simp,by simpa using h1,by simpa [eqI] using h⟩
    ·exact ⟨a,h,h1,h2⟩
   ·rintro ⟨a,ha,h1,h2⟩
    cases a with
    | zero=>exact .inl (by simpa using h1)
    | succ a=>exact .inr ⟨a+1,ha,h1,h2,by omega⟩
end Go.TM.Ft
