/- What functions of the program come to, by the machine. -/
import Derived.Test.YtlmiemdojgahaaaGreatKL5
import Derived.Test.YtlmiemdojgahaaaGreatKL6
set_option linter.unusedSimpArgs false
set_option linter.unusedVariables false
set_option maxHeartbeats 8000000
namespace Go.TM.Ft
open Go Go.TM Go.Proofs Go.Proofs.Tryz
set_option maxRecDepth 20000
attribute [local congr] M0
attribute [local simp] K2 K6 J4 K3 H7 J9 H8 G9 J1 G3
theorem a3q (n:Int):fo 129 [A (vI n)]=some (R (vB (inR n 0 1000000))):=by
 refine h6r 1 ?_
 simp (maxSteps:=1000000) +contextual -dsimp [f129,C8]
def a5a:List Int→Bool
 | []=>false
 | x::r=>if badV x=true then true else a5a r
theorem g3h (all:List Int) (hall:all.length≤1000):∀ (rest:List Int) (i:Nat),all.drop i=rest→
  A6 E (orc E) (159:Nat) (rest.length+1) (A8 f159 0) ⟨19,[(0,iS all),(3,vI i)],[],2⟩=
  (if a5a rest=true then some (.ret,⟨19,[(2,vI 3)],[],2⟩) else some (.exit 0,⟨19,[(0,iS all),(3,vI (i+rest.length:Nat)),(10,vB false)],[],2⟩))
 | [],i,h=>by
  have hge:all.length≤i:=by simpa using h
  have hlt:ltI (i:Int) (all.length:Int)=false:=B6 (by omega)
  rw [C3]
  simp +contextual -dsimp [f159,hlt,a5a]
 | x::rest,i,h=>by
  obtain ⟨hi,hc,hr⟩:=C6 h
  have hlt:ltI (i:Int) (all.length:Int)=true:=C4 (by omega)
  have hw:IntKind.i64.wrap ((i:Int)+1)=((i+1:Nat):Int):=by rw [A5] <;> omega
  have he:i+1+rest.length=i+(rest.length+1):=by omega
  cases q:inR x (-1000000) 1000000
  ·have hm:a5a (x::rest)=true:=by simp [a5a,badV,q,A0]
   rw [hm,if_pos rfl]
   refine D3 ?_ (by simp)
   simp (maxSteps:=1000000) +contextual -dsimp [f159,hlt,hi,hc,C8,q]
  ·have hm:a5a (x::rest)=a5a rest:=by simp [a5a,badV,q,A0]
   have ih:=g3h all hall rest (i+1) hr
   rw [he] at ih
   rw [hm]
   refine C1 ?_ (by simpa only [List.length_cons] using ih)
   simp (maxSteps:=1000000) +contextual -dsimp [f159,hlt,hi,hc,hw,C8,q]
def a9l (l:List Int):Int:=if A0 (eqI l.length 4)=true then 2 else if a5a l=true then 3 else 0
theorem f6n (l:List Int):fo 159 [A (iS l)]=some (R (vI (a9l l))):=by
 unfold a9l
 cases q:eqI l.length 4
 ·refine e4f 1 ?_
  simp (maxSteps:=1000000) +contextual -dsimp [f159,q]
 ·have hl:l.length≤1000:=by simp [eqI] at q; omega
  have hlp:=g3h l hl l 0 rfl
  refine e4f (l.length+1) ?_
  simp -dsimp [f159] at hlp
  cases q2:a5a l
  ·rw [q2] at hlp
   simp (maxSteps:=1000000) +contextual -dsimp [f159,q,hlp]
  ·rw [q2] at hlp
   simp (maxSteps:=1000000) +contextual -dsimp [f159,q,hlp]
theorem c0n (l:List Step) (c:Chart) (at_:Int) (hb:c.acts.length < 2 ^ 62) (all:List Int) (hall:all.length≤1000) (hk:∀ k,k∈all→∃ a:Nat,k=a∧a < c.acts.length):∀ (rest:List Int) (i n m:Nat),all.drop i=rest→n≤i→m≤i→
  A6 E (orc E) (228:Nat) (rest.length+1) (A8 f228 0) ⟨130,[(0,.sl 124 (l.map (sT 219))),(1,.ipt (cT c)),(2,vI at_),(7,iS all),(8,vI n),(9,vI m),(10,vI i)],[],2⟩=
  some (.exit 0,⟨130,[(0,.sl 124 (l.map (sT 219))),(1,.ipt (cT c)),(2,vI at_),(7,iS all),(8,vI (C7 c.acts 1 rest n)),(9,vI (C7 c.acts 2 rest m)),(10,vI (i+rest.length:Nat)),(18,vB false)],[],2⟩)
 | [],i,n,m,h,hn,hm=>by
  have hge:all.length≤i:=by simpa using h
  have hlt:ltI (i:Int) (all.length:Int)=false:=B6 (by omega)
  rw [C3]
  simp +contextual -dsimp [f228,hlt,C7]
 | x::rest,i,n,m,h,hn,hmm=>by
  obtain ⟨hi,hc,hr⟩:=C6 h
  obtain ⟨a,rfl,ha⟩:=hk x (by rw [← hc]; exact List.getElem_mem _)
  have hlt:ltI (i:Int) (all.length:Int)=true:=C4 (by omega)
  have hw:IntKind.i64.wrap ((i:Int)+1)=((i+1:Nat):Int):=by rw [A5] <;> omega
  have hw2:IntKind.i64.wrap ((n:Int)+1)=((n+1:Nat):Int):=by rw [A5] <;> omega
  have hw3:IntKind.i64.wrap ((m:Int)+1)=((m+1:Nat):Int):=by rw [A5] <;> omega
  have he:i+1+rest.length=i+(rest.length+1):=by omega
  have hs:=a0b ha
  cases q:eqI (c.acts[a]) 1
  ·cases q2:eqI (c.acts[a]) 2
   ·have ih:=c0n l c at_ hb all hall hk rest (i+1) n m hr (by omega) (by omega)
    rw [he] at ih
    have hm1:C7 c.acts 1 ((a:Int)::rest) n=C7 c.acts 1 rest n:=by simp [C7,hs,q]
    have hm2:C7 c.acts 2 ((a:Int)::rest) m=C7 c.acts 2 rest m:=by simp [C7,hs,q2]
    rw [hm1,hm2]
    refine C1 ?_ (by simpa only [List.length_cons] using ih)
    simp (maxSteps:=1000000) +contextual -dsimp [f228,hlt,hi,hc,hw,ha,q,q2]
   ·have ih:=c0n l c at_ hb all hall hk rest (i+1) n (m+1) hr (by omega) (by omega)
    rw [he] at ih
    have hm1:C7 c.acts 1 ((a:Int)::rest) n=C7 c.acts 1 rest n:=by simp [C7,hs,q]
    have hm2:C7 c.acts 2 ((a:Int)::rest) m=C7 c.acts 2 rest (m+1):=by simp [C7,hs,q2]
    rw [hm1,hm2]
    refine C1 ?_ (by simpa only [List.length_cons] using ih)
    simp (maxSteps:=1000000) +contextual -dsimp [f228,hlt,hi,hc,hw,hw3,ha,q,q2]
  ·have q2:eqI (c.acts[a]) 2=false:=by simp [eqI] at q ⊢; omega
   have ih:=c0n l c at_ hb all hall hk rest (i+1) (n+1) m hr (by omega) (by omega)
   rw [he] at ih
   have hm1:C7 c.acts 1 ((a:Int)::rest) n=C7 c.acts 1 rest (n+1):=by simp [C7,hs,q]
   have hm2:C7 c.acts 2 ((a:Int)::rest) m=C7 c.acts 2 rest m:=by simp [C7,hs,q2]
   rw [hm1,hm2]
   refine C1 ?_ (by simpa only [List.length_cons] using ih)
   simp (maxSteps:=1000000) +contextual -dsimp [f228,hlt,hi,hc,hw,hw2,ha,q]
theorem e1w {p:Int}:∀ {l:List Step} {i:Nat} {k:Int},k∈B9 p i l→∃ a:Nat,k=a∧a < i+l.length
 | [],i,k,h=>by simp [B9] at h
 | x::l,i,k,h=>by
  unfold B9 at h
  have tl:k∈B9 p (i+1) l→∃ a:Nat,k=a∧a < i+(x::l).length:=fun h=>by
   obtain ⟨a,h1,h2⟩:=e1w h
   exact ⟨a,h1,by simp; omega⟩
  split at h
  ·rcases List.mem_cons.1 h with rfl | h
   ·exact ⟨i,rfl,by simp⟩
   ·exact tl h
  ·exact tl h
def a5s (k:Int) (c:Chart) (on over:Int) (list:List Int) (due:Bool):Bool:=
 if orB (eqI k 1) (eqI k 3)=true then orB (orB (A0 (eqI on 1)) (ltI 0 over)) due
 else if eqI k 4=true then orB (orB (ltI on 1) (A0 (eqI (on+over) list.length))) due
 else if eqI k 8=true then orB (orB (A0 (eqI on 1)) (ltI 0 over)) (A0 (eqB due (eqI (A4 c.acts (A4 list 0)) 1)))
 else if eqI k 6=true then A0 due
 else if eqI k 7=true then true
 else due
def a9m (l:List Step) (c:Chart) (i:Nat):Bool:=
 if A0 (eqI (A4 c.acts i) 1)=true then orB (ltI 0 ((C7 c.acts 1 (B9 i 0 l) 0:Nat)+(C7 c.acts 2 (B9 i 0 l) 0:Nat))) (A0 (eqI (A4 c.dues i) 0))
 else a5s (A9 l i) c (C7 c.acts 1 (B9 i 0 l) 0:Nat) (C7 c.acts 2 (B9 i 0 l) 0:Nat) (B9 i 0 l) (A0 (eqI (A4 c.dues i) 0))
theorem h1d (l:List Step) (hl:l.length≤24) (c:Chart) (ha:c.acts.length=l.length) (hd:c.dues.length=l.length) (i:Nat) (hi:i < l.length):
  fo 228 [A (.sl 124 (l.map (sT 219))),A (.ipt (cT c)),A (vI i)]=some (R (vB (a9m l c i))):=by
 have g1:=b0n l (by omega) i
 have hk:∀ k,k∈B9 i 0 l→∃ a:Nat,k=a∧a < c.acts.length:=fun k h=>by
  obtain ⟨a,h1,h2⟩:=e1w h
  exact ⟨a,h1,by omega⟩
 have hfew:=c5l i l 0
 have hia:i < c.acts.length:=by omega
 have hid:i < c.dues.length:=by omega
 have hsa:A4 c.acts (i:Int)=c.acts[i]:=a0b hia
 have hsd:A4 c.dues (i:Int)=c.dues[i]:=a0b hid
 have hki:A9 l i=(l[i]).kind:=by simp [A9,hi]
 have b1:=a8c c.acts 1 (B9 i 0 l) 0
 have b2:=a8c c.acts 2 (B9 i 0 l) 0
 have hlp:=c0n l c i (by omega) (B9 i 0 l) (by omega) hk (B9 i 0 l) 0 0 0 rfl (by omega) (by omega)
 unfold a9m
 rw [hsa,hsd,hki]
 have hl0:C7 c.acts 1 (B9 i 0 l) 0=1→0 < (B9 i 0 l).length:=fun h=>by omega
 generalize hon:C7 c.acts 1 (B9 i 0 l) 0=on at *
 generalize hov:C7 c.acts 2 (B9 i 0 l) 0=ov at *
 have hw:IntKind.i64.wrap ((on:Int)+ov)=(on:Int)+ov:=by rw [A5] <;> omega
 generalize B9 i 0 l=ks at *
 have hse:=a2h ks
 refine h8p (ks.length+1) ?_
 simp -dsimp [f228] at hlp
 cases q2:eqI c.acts[i] 1
 ·simp (maxSteps:=1000000) +contextual -dsimp [f228,g1,hse,hlp,hia,hid,q2,hw]
 ·cases e1:eqI (l[i].kind) 1
  ·cases e3:eqI (l[i].kind) 3
   ·cases e4:eqI (l[i].kind) 4
    ·cases e8:eqI (l[i].kind) 8
     ·cases e6:eqI (l[i].kind) 6
      ·cases e7:eqI (l[i].kind) 7
       ·simp (maxSteps:=1000000) +contextual -dsimp [f228,g1,hse,hlp,hia,hid,hi,q2,a5s,e1,e3,e4,e8,e6,e7]
       ·simp (maxSteps:=1000000) +contextual -dsimp [f228,g1,hse,hlp,hia,hid,hi,q2,a5s,e1,e3,e4,e8,e6,e7]
      ·simp (maxSteps:=1000000) +contextual -dsimp [f228,g1,hse,hlp,hia,hid,hi,q2,a5s,e1,e3,e4,e8,e6]
     ·cases o1:eqI (on:Int) 1
      ·simp (maxSteps:=1000000) +contextual -dsimp [f228,g1,hse,hlp,hia,hid,hi,q2,a5s,e1,e3,e4,e8,o1]
      ·have hpos:0 < ks.length:=hl0 (by simp [eqI] at o1; omega)
       obtain ⟨a,ka,hla⟩:=hk (ks[0]) (List.getElem_mem _)
       have hs0:A4 ks 0=ks[0]:=a0b hpos
       have hs1:A4 c.acts (a:Int)=c.acts[a]:=a0b hla
       cases o2:ltI 0 (ov:Int)
       ·simp (maxSteps:=1000000) +contextual -dsimp [f228,g1,hse,hlp,hia,hid,hi,q2,a5s,e1,e3,e4,e8,o1,o2,hpos,hs0,ka,hs1,hla]
       ·simp (maxSteps:=1000000) +contextual -dsimp [f228,g1,hse,hlp,hia,hid,hi,q2,a5s,e1,e3,e4,e8,o1,o2,hs0,ka,hs1]
    ·simp (maxSteps:=1000000) +contextual -dsimp [f228,g1,hse,hlp,hia,hid,hi,q2,hw,a5s,e1,e3,e4]
   ·simp (maxSteps:=1000000) +contextual -dsimp [f228,g1,hse,hlp,hia,hid,hi,q2,a5s,e1,e3]
  ·simp (maxSteps:=1000000) +contextual -dsimp [f228,g1,hse,hlp,hia,hid,hi,q2,a5s,e1]
def a9z (c:Chart) (i:Nat):Bool:=orB (A0 (inR (A4 c.acts i) 0 2)) (A0 (inR (A4 c.dues i) 0 (c.now+99)))
def a2d (c:Chart):Nat→Nat→Bool
 | 0,_=>false
 | f+1,i=>if a9z c i=true then true else a2d c f (i+1)
def b1h (c:Chart) (i:Nat) (s:Bool):Bool:=orB (orB s (A0 (eqI (A4 c.acts i) 0))) (A0 (eqI (A4 c.dues i) 0))
def a5y (c:Chart):Nat→Nat→Bool→Bool
 | 0,_,s=>s
 | f+1,i,s=>a5y c f (i+1) (b1h c i s)
theorem g2p (l:List Step) (hl:l.length≤24) (c:Chart) (ha:c.acts.length=l.length) (hd:c.dues.length=l.length) (hn0:0≤c.now) (hn1:c.now≤1000000):∀ (f i:Nat) (s:Bool),i+f=l.length→
    A6 E (orc E) (163:Nat) (f+1) (A8 f163 0) ⟨130,[(0,.sl 124 (l.map (sT 219))),(1,.ipt (cT c)),(7,vB s),(8,vI i)],[],2⟩=
    (if a2d c f i = true then some (.ret, ⟨130, [(4, vI 3)], [], 2⟩)
     else some (.exit 0,⟨130,[(0,.sl 124 (l.map (sT 219))),(1,.ipt (cT c)),(7,vB (a5y c f i s)),(8,vI l.length),(58,vB false)],[],2⟩))
  | 0,i,s,h=>by
    have e:i=l.length:=by omega
    subst e
    have hlt:ltI (l.length:Int) (l.length:Int)=false:=B6 (by omega)
    rw [C3]
    simp +contextual -dsimp [f163,hlt,a2d,a5y]
  | f+1,i,s,h=>by
    have hi:i < l.length:=by omega
    have hia:i < c.acts.length:=by omega
    have hid:i < c.dues.length:=by omega
    have hsa:A4 c.acts (i:Int)=c.acts[i]:=a0b hia
    have hsd:A4 c.dues (i:Int)=c.dues[i]:=a0b hid
    have hlt:ltI (i:Int) (l.length:Int)=true:=C4 (by omega)
    have hw:IntKind.i64.wrap ((i:Int)+1)=((i+1:Nat):Int):=by rw [A5] <;> omega
    have hw2:IntKind.i64.wrap (c.now+99)=c.now+99:=by rw [A5] <;> omega
    cases q:inR c.acts[i] 0 2
    · have hm : a2d c (f + 1) i = true := by simp [a2d, a9z, hsa, q, A0, orB]
      rw [hm,if_pos rfl]
      refine D3 ?_ (by simp)
      simp (maxSteps:=1000000) +contextual -dsimp [f163,hlt,hia,C8,q]
    · cases q2 : inR c.dues[i] 0 (c.now + 99)
      · have hm : a2d c (f + 1) i = true := by simp [a2d, a9z, hsa, hsd, q, q2, A0, orB]
        rw [hm,if_pos rfl]
        refine D3 ?_ (by simp)
        simp (maxSteps:=1000000) +contextual -dsimp [f163,hlt,hia,hid,hw2,C8,q,q2]
      · have ih := g2p l hl c ha hd hn0 hn1 f (i + 1) (b1h c i s) (by omega)
        have hm:a2d c (f+1) i=a2d c f (i+1):=by simp [a2d,a9z,hsa,hsd,q,q2,A0,orB]
        have hm2:a5y c (f+1) i s=a5y c f (i+1) (b1h c i s):=rfl
        rw [hm,hm2]
        refine C1 ?_ ih
        unfold b1h
        rw [hsa,hsd]
        simp (maxSteps:=1000000) +contextual -dsimp [f163,hlt,hia,hid,hw,hw2,C8,q,q2]
def a2j (l:List Step) (c:Chart):Nat→Nat→Bool
 | 0,_=>false
 | f+1,i=>if a9m l c i=true then true else a2j l c f (i+1)
theorem g2q (l:List Step) (hl:l.length≤24) (c:Chart) (ha:c.acts.length=l.length) (hd:c.dues.length=l.length):∀ (f i:Nat),i+f=l.length→
    A6 E (orc E) (163:Nat) (f+1) (A8 f163 1) ⟨130,[(0,.sl 124 (l.map (sT 219))),(1,.ipt (cT c)),(9,vI i)],[],2⟩=
    (if a2j l c f i = true then some (.ret, ⟨130, [(4, vI 1)], [], 2⟩)
     else some (.exit 2,⟨130,[(0,.sl 124 (l.map (sT 219))),(1,.ipt (cT c)),(9,vI l.length),(123,vB false)],[],2⟩))
  | 0,i,h=>by
    have e:i=l.length:=by omega
    subst e
    have hlt:ltI (l.length:Int) (l.length:Int)=false:=B6 (by omega)
    rw [C3]
    simp +contextual -dsimp [f163,hlt,a2j]
  | f+1,i,h=>by
    have hi:i < l.length:=by omega
    have hlt:ltI (i:Int) (l.length:Int)=true:=C4 (by omega)
    have hw:IntKind.i64.wrap ((i:Int)+1)=((i+1:Nat):Int):=by rw [A5] <;> omega
    have g:=h1d l hl c ha hd i hi
    cases q:a9m l c i
    · have ih := g2q l hl c ha hd f (i + 1) (by omega)
      have hm:a2j l c (f+1) i=a2j l c f (i+1):=by simp [a2j,q]
      rw [hm]
      refine C1 ?_ ih
      simp (maxSteps:=1000000) +contextual -dsimp [f163,hlt,g,q,hw]
    · have hm : a2j l c (f + 1) i = true := by simp [a2j, q]
      rw [hm,if_pos rfl]
      refine D3 ?_ (by simp)
      simp (maxSteps:=1000000) +contextual -dsimp [f163,hlt,g,q]
def a9n (l:List Step) (c:Chart):Int:=
 if A0 (eqI (V6 l) 0)=true then V6 l
 else if orB (A0 (inR c.status 1 3)) (A0 (inR c.now 0 1000000))=true then 3
 else if A0 (eqI (a9l c.vars) 0)=true then a9l c.vars
 else if orB (A0 (eqI c.acts.length l.length)) (A0 (eqI c.dues.length l.length))=true then 2
 else if a2d c l.length 0=true then 3
 else if A0 (eqI c.status 1)=true then (if a5y c l.length 0 false=true then 1 else 0)
 else if A0 (eqI (A4 c.acts 0) 1)=true then 1
 else if a2j l c l.length 0=true then 1 else 0
theorem g8d {l:List Step} (h:V6 l=0):1≤l.length∧l.length≤24:=by
 unfold V6 at h
 split at h
 ·simp at h
 ·rename_i c; simp [orB,ltI] at c; omega
theorem d7o (l:List Step) (hl:l.length < 2 ^ 62) (hf:b1m l) (c:Chart):fo 163 [A (.sl 124 (l.map (sT 219))),A (.ipt (cT c))]=some (R (vI (a9n l c))):=by
 have g1:=d7k l hl hf
 have g2:=f6n c.vars
 unfold a9n
 refine h7c (l.length+1) ?_
 cases q1:eqI (V6 l) 0
 ·simp (maxSteps:=1000000) +contextual -dsimp [f163,g1,q1]
 ·have e0:V6 l=0:=by simpa [eqI] using q1
  obtain ⟨p1,p2⟩:=g8d e0
  cases q2:inR c.status 1 3
  ·simp (maxSteps:=1000000) +contextual -dsimp [f163,g1,e0,B7,C8,q2]
  ·cases q3:inR c.now 0 1000000
   ·simp (maxSteps:=1000000) +contextual -dsimp [f163,g1,e0,B7,C8,a3q,q2,q3]
   ·cases q4:eqI (a9l c.vars) 0
    ·simp (maxSteps:=1000000) +contextual -dsimp [f163,g1,g2,e0,B7,C8,a3q,q2,q3,q4]
    ·have e1:a9l c.vars=0:=by simpa [eqI] using q4
     cases q5:eqI c.acts.length l.length
     ·simp (maxSteps:=1000000) +contextual -dsimp [f163,g1,g2,e0,e1,B7,C8,a3q,q2,q3,q5]
     ·cases q6:eqI c.dues.length l.length
      ·simp (maxSteps:=1000000) +contextual -dsimp [f163,g1,g2,e0,e1,B7,C8,a3q,q2,q3,q5,q6]
      ·have ha:c.acts.length=l.length:=by simp [eqI] at q5; omega
       have hd:c.dues.length=l.length:=by simp [eqI] at q6; omega
       have hn:0≤c.now∧c.now≤1000000:=by simp [inR,A1,leI] at q3; omega
       have hlp:=g2p l p2 c ha hd hn.1 hn.2 l.length 0 false (by omega)
       have hlq:=g2q l p2 c ha hd l.length 0 (by omega)
       have ha0:0 < c.acts.length:=by omega
       have hs:A4 c.acts 0=c.acts[0]:=a0b ha0
       simp -dsimp [f163] at hlp hlq
       cases q7:a2d c l.length 0
       ·rw [q7] at hlp
        cases q8:eqI c.status 1
        ·cases q9:a5y c l.length 0 false
         ·rw [q9] at hlp
          simp (maxSteps:=1000000) +contextual -dsimp [f163,g1,g2,e0,e1,B7,C8,a3q,q2,q3,q5,q6,q8,hlp]
         ·rw [q9] at hlp
          simp (maxSteps:=1000000) +contextual -dsimp [f163,g1,g2,e0,e1,B7,C8,a3q,q2,q3,q5,q6,q8,hlp]
        ·rw [hs]
         cases q10:eqI c.acts[0] 1
         ·simp (maxSteps:=1000000) +contextual -dsimp [f163,g1,g2,e0,e1,B7,C8,a3q,q2,q3,q5,q6,q8,q10,ha0,hlp]
         ·cases q11:a2j l c l.length 0
          ·rw [q11] at hlq
           simp (maxSteps:=1000000) +contextual -dsimp [f163,g1,g2,e0,e1,B7,C8,a3q,q2,q3,q5,q6,q8,q10,ha0,hlp,hlq]
          ·rw [q11] at hlq
           simp (maxSteps:=1000000) +contextual -dsimp [f163,g1,g2,e0,e1,B7,C8,a3q,q2,q3,q5,q6,q8,q10,ha0,hlp,hlq]
       ·rw [q7] at hlp
        simp (maxSteps:=1000000) +contextual -dsimp [f163,g1,g2,e0,e1,B7,C8,a3q,q2,q3,q5,q6,hlp]
theorem FitP.x {p:List Step} (h:FitP p):b1m p:=fun s hs=>⟨(h.steps s hs).name,(h.steps s hs).cond,(h.steps s hs).expr⟩
def a2z:List (List Step)→Int
 | []=>0
 | p::r=>if A0 (eqI (V6 p) 0)=true then V6 p else a2z r
theorem g3i (all:List (List Step)) (hall:all.length≤1000) (hf:∀ p,p∈all→FitP p):∀ (rest:List (List Step)) (i:Nat),all.drop i=rest→
    A6 E (orc E) (181:Nat) (rest.length+1) (A8 f181 0) ⟨28,[(0,.sl 160 (all.map (pT 124 219))),(3,vI i)],[],2⟩=
    (if eqI (a2z rest) 0 = true then some (.exit 0, ⟨28, [(0, .sl 160 (all.map (pT 124 219))), (3, vI (i + rest.length : Nat)), (16, vB false)], [], 2⟩)
     else some (.ret,⟨28,[(2,vI (a2z rest))],[],2⟩))
  | [],i,h=>by
    have hge:all.length≤i:=by simpa using h
    have hlt:ltI (i:Int) (all.length:Int)=false:=B6 (by omega)
    rw [C3]
    simp +contextual -dsimp [f181,hlt,a2z,B7]
  | s::rest,i,h=>by
    obtain ⟨hi,hc,hr⟩:=C6 h
    have hlt:ltI (i:Int) (all.length:Int)=true:=C4 (by omega)
    have hw:IntKind.i64.wrap ((i:Int)+1)=((i+1:Nat):Int):=by rw [A5] <;> omega
    have he:i+1+rest.length=i+(rest.length+1):=by omega
    have hs:=hf s (by rw [← hc]; exact List.getElem_mem _)
    have g:=d7k s hs.len hs.x
    cases q:eqI (V6 s) 0
    · have hm : a2z (s :: rest) = V6 s := by simp [a2z, q, A0]
      rw [hm,q,if_neg (by simp)]
      refine D3 ?_ (by simp)
      simp (maxSteps:=1000000) +contextual -dsimp [f181,hlt,hi,hc,g,q]
    · have ih := g3i all hall hf rest (i + 1) hr
      rw [he] at ih
      have hm:a2z (s::rest)=a2z rest:=by simp [a2z,q,A0]
      rw [hm]
      refine C1 ?_ (by simpa only [List.length_cons] using ih)
      simp (maxSteps:=1000000) +contextual -dsimp [f181,hlt,hi,hc,hw,g,q]
def a9g (ps:List (List Step)):Int:=if orB (ltI ps.length 1) (ltI 3 ps.length)=true then 2 else a2z ps
theorem g8e (ps:List (List Step)) (hps:ps.length < 2 ^ 62) (hf:∀ p,p∈ps→FitP p):fo 181 [A (.sl 160 (ps.map (pT 124 219)))]=some (R (vI (a9g ps))):=by
 unfold a9g
 cases c1:orB (ltI ps.length 1) (ltI 3 ps.length)
 ·have hl:ps.length≤1000:=by simp [orB,ltI] at c1; omega
  have hlp:=g3i ps hl hf ps 0 rfl
  refine e4h (ps.length+1) ?_
  simp -dsimp [f181] at hlp
  cases c2:eqI (a2z ps) 0
  ·rw [c2] at hlp
   simp (maxSteps:=1000000) +contextual -dsimp [f181,c1,hlp]
  ·rw [c2] at hlp
   have e0:a2z ps=0:=by simpa [eqI] using c2
   simp (maxSteps:=1000000) +contextual -dsimp [f181,c1,e0,hlp]
 ·refine e4h 1 ?_
  simp (maxSteps:=1000000) +contextual -dsimp [f181,c1]
def a6w (e:Engine) (x:Inst):Int:=
 if A0 (inR x.proc 0 ((e.procs.length:Int) - 1))=true then 3
 else if A0 (eqI (a9n (stepsOf e x) x.chart) 0)=true then a9n (stepsOf e x) x.chart
 else if A0 (eqI x.chart.now e.now)=true then 9 else 0
def a3a (e:Engine):List Inst→Int
 | []=>0
 | x::r=>if eqI (a6w e x) 0=true then a3a e r else a6w e x
theorem g3j (e:Engine) (tl:List T) (hf:FitE e):∀ (rest:List Inst) (i:Nat),e.insts.drop i=rest→
    A6 E (orc E) (107:Nat) (rest.length+1) (A8 f107 0) ⟨82,[(0,.ipt (.sl 160 (e.procs.map (pT 124 219))::.sl 163 (e.insts.map xT)::vI e.now::tl)),(4,vI i)],[],2⟩=
    (if eqI (a3a e rest) 0 = true then some (.exit 0, ⟨82, [(0, .ipt (.sl 160 (e.procs.map (pT 124 219)) :: .sl 163 (e.insts.map xT) :: vI e.now :: tl)), (4, vI (i + rest.length : Nat)), (33, vB false)], [], 2⟩)
     else some (.ret,⟨82,[(2,vI (a3a e rest))],[],2⟩))
  | [],i,h=>by
    have hge:e.insts.length≤i:=by simpa using h
    have hlt:ltI (i:Int) (e.insts.length:Int)=false:=B6 (by omega)
    rw [C3]
    simp +contextual -dsimp [f107,hlt,a3a,B7]
  | x::rest,i,h=>by
    obtain ⟨hi,hc,hr⟩:=C6 h
    have hni:=hf.ni
    have hnp:=hf.np
    have hlt:ltI (i:Int) (e.insts.length:Int)=true:=C4 (by omega)
    have hw:IntKind.i64.wrap ((i:Int)+1)=((i+1:Nat):Int):=by rw [A5] <;> omega
    have hw2:IntKind.i64.wrap ((e.procs.length:Int) - 1)=(e.procs.length:Int) - 1:=by rw [A5] <;> omega
    have he:i+1+rest.length=i+(rest.length+1):=by omega
    have out:∀ k:Int,a6w e x=k→eqI k 0=false→a3a e (x::rest)=k:=fun k h1 h2=>by simp [a3a,h1,h2]
    cases q1:inR x.proc 0 ((e.procs.length:Int) - 1)
    · have hm := out 3 (by simp [a6w, q1, A0]) rfl
      have h30:eqI (3:Int) 0=false:=rfl
      rw [hm,h30,if_neg (by simp)]
      refine D3 ?_ (by simp)
      simp (maxSteps:=1000000) +contextual -dsimp [f107,hlt,hi,hc,hw2,C8,q1]
    · obtain ⟨a, hx, ha⟩ : ∃ a : Nat, x.proc = a ∧ a < e.procs.length := by
        simp [inR,A1,leI] at q1
        obtain ⟨k,hk⟩:=Int.eq_ofNat_of_zero_le q1.1
        exact ⟨k,hk,by omega⟩
      have q1':=q1
      rw [hx] at q1'
      have hp:=hf.procs (e.procs[a]) (List.getElem_mem _)
      have e2:stepsOf e x=e.procs[a]:=by simp [stepsOf,hx,ha]
      have g2:=d7o (e.procs[a]) hp.len hp.x x.chart
      cases q2:eqI (a9n (e.procs[a]) x.chart) 0
      · have hm := out (a9n (e.procs[a]) x.chart) (by simp [a6w, q1, e2, q2, A0]) q2
        rw [hm,q2,if_neg (by simp)]
        refine D3 ?_ (by simp)
        simp (maxSteps:=1000000) +contextual -dsimp [f107,hlt,hi,hc,hw2,C8,hx,ha,q1',g2,q2]
      · cases q3 : eqI x.chart.now e.now
        · have hm := out 9 (by simp [a6w, q1, e2, q2, q3, A0]) rfl
          have h30:eqI (9:Int) 0=false:=rfl
          rw [hm,h30,if_neg (by simp)]
          refine D3 ?_ (by simp)
          simp (maxSteps:=1000000) +contextual -dsimp [f107,hlt,hi,hc,hw2,C8,hx,ha,q1',g2,q2,q3]
        · have h3 : a6w e x = 0 := by simp [a6w, q1, e2, q2, q3, A0]
          have ih:=g3j e tl hf rest (i+1) hr
          rw [he] at ih
          have hm:a3a e (x::rest)=a3a e rest:=by simp [a3a,h3,B7]
          rw [hm]
          refine C1 ?_ (by simpa only [List.length_cons] using ih)
          simp (maxSteps:=1000000) +contextual -dsimp [f107,hlt,hi,hc,hw,hw2,C8,hx,ha,q1',g2,q2,q3]
def c0i (e:Engine):Int:=
 if ltI 6 e.insts.length=true then 2
 else if A0 (eqI (a9g e.procs) 0)=true then a9g e.procs
 else if A0 (inR e.now 0 1000000)=true then 3
 else a3a e e.insts
theorem d5e (e:Engine) (tl:List T) (hf:FitE e):fo 107 [A (.ipt (.sl 160 (e.procs.map (pT 124 219))::.sl 163 (e.insts.map xT)::vI e.now::tl))]=some (R (vI (c0i e))):=by
 have g1:=g8e e.procs hf.np hf.procs
 have hlp:=g3j e tl hf e.insts 0 rfl
 simp -dsimp [f107] at hlp
 unfold c0i
 refine h6a (e.insts.length+1) ?_
 cases q1:ltI 6 e.insts.length
 ·cases q2:eqI (a9g e.procs) 0
  ·simp (maxSteps:=1000000) +contextual -dsimp [f107,g1,q1,q2]
  ·have e0:a9g e.procs=0:=by simpa [eqI] using q2
   cases q3:inR e.now 0 1000000
   ·simp (maxSteps:=1000000) +contextual -dsimp [f107,a3q,g1,q1,e0,B7,q3]
   ·cases q4:eqI (a3a e e.insts) 0
    ·rw [q4] at hlp
     simp (maxSteps:=1000000) +contextual -dsimp [f107,a3q,g1,q1,e0,B7,q3,hlp]
    ·rw [q4] at hlp
     have e1:a3a e e.insts=0:=by simpa [eqI] using q4
     simp (maxSteps:=1000000) +contextual -dsimp [f107,a3q,g1,q1,e0,B7,q3,e1,hlp]
 ·simp (maxSteps:=1000000) +contextual -dsimp [f107,q1]
theorem a7k (n:Int):fo 174 [A (vI n)]=some (R (vB (inR n 1 9))):=by
 refine h7i 1 ?_
 simp (maxSteps:=1000000) +contextual -dsimp [f174,C8]
def a5t (a b:Claim):Bool:=orB (ltI a.inst b.inst) (A1 (eqI a.inst b.inst) (ltI a.step b.step))
theorem g8f (a b:Claim):fo 133 [A (.agg (kT a)),A (.agg (kT b))]=some (R (vB (a5t a b))):=by
 unfold a5t
 refine h6t 1 ?_
 simp (maxSteps:=1000000) +contextual -dsimp [f133]
theorem c3q (e:Engine) (tl:List T) (i:Nat) (hi:i < e.insts.length) (a:Nat) (hx:(e.insts[i]).proc=a) (ha:a < e.procs.length) (hl:(e.procs[a]).length < 2 ^ 62)
  (hc:(e.insts[i]).chart.acts.length=(e.procs[a]).length) (step:Int):
  fo 175 [A (.ipt (.sl 160 (e.procs.map (pT 124 219))::.sl 163 (e.insts.map xT)::vI e.now::tl)),A (vI i),A (vI step)]=some (R (vB (V7 e i step))):=by
 have e1:a1g e i=e.insts[i]:=by simp [a1g,hi]
 have e2:stepsOf e (e.insts[i])=e.procs[a]:=by simp [stepsOf,hx,ha]
 have hw:IntKind.i64.wrap (((e.procs[a]).length:Int) - 1)=((e.procs[a]).length:Int) - 1:=by rw [A5] <;> omega
 unfold V7
 rw [e1,e2]
 unfold a4t
 refine h7j 1 ?_
 cases q:inR step 0 (((e.procs[a]).length:Int) - 1)
 ·simp (maxSteps:=1000000) +contextual -dsimp [f175,C8,hi,hx,ha,hw,q]
 ·obtain ⟨k,rfl,hk⟩:∃ k:Nat,step=k∧k < (e.procs[a]).length:=by
   simp [inR,A1,leI] at q
   obtain ⟨k,rfl⟩:=Int.eq_ofNat_of_zero_le q.1
   exact ⟨k,rfl,by omega⟩
  have hka:k < (e.insts[i]).chart.acts.length:=by omega
  have hs:A4 (e.insts[i]).chart.acts (k:Int)=(e.insts[i]).chart.acts[k]:=a0b hka
  have hki:A9 (e.procs[a]) k=((e.procs[a])[k]).kind:=by simp [A9,hk]
  simp (maxSteps:=1000000) +contextual -dsimp [f175,C8,hi,hx,ha,hw,q,hk,hka,hs,hki]
end Go.TM.Ft
namespace Go.TM.Ft
open Go Go.TM Go.Proofs Go.Proofs.Tryz
set_option maxRecDepth 20000
theorem e1x (p:Int→Bool):∀ (l:List Int) (i:Nat),leI 0 (D2 p i l)=l.any p
 | [],i=>by simp [D2,leI]
 | x::l,i=>by
  have ih:=e1x p l (i+1)
  unfold D2
  cases h:p x
  ·simp [ih,h]
  ·simp [h,leI]
theorem b0p (p:Int→Bool) (l:List Int):V3 p l=l.any p:=e1x p l 0
theorem e1y:∀ (l:List Int),a5a l=l.any badV
 | []=>rfl
 | x::l=>by
  unfold a5a
  rw [e1y l]
  cases h:badV x <;> simp [h]
theorem d7p (l:List Int):a9l l=M4 l:=by
 unfold a9l M4
 rw [e1y,b0p]
 cases eqI l.length 4 <;> cases l.any badV <;> rfl
theorem i5i {l:List Int} {p:Int→Bool}:l.any p=true ↔ ∃ i,i < l.length∧p (A4 l i)=true:=by
 rw [List.any_eq_true]
 constructor
 ·rintro ⟨x,hx,hp⟩
  obtain ⟨i,hi,he⟩:=List.getElem_of_mem hx
  exact ⟨i,hi,by rw [a0b hi,he]; exact hp⟩
 ·rintro ⟨i,hi,hp⟩
  rw [a0b hi] at hp
  exact ⟨_,List.getElem_mem hi,hp⟩
theorem e1z (c:Chart):∀ (f i:Nat),a2d c f i=true ↔ ∃ k,i≤k∧k < i+f∧a9z c k=true
 | 0,i=>by simp [a2d]; omega
 | f+1,i=>by
  unfold a2d
  have ih:=e1z c f (i+1)
  cases h:a9z c i
  ·simp only [Bool.false_eq_true,if_false]
   rw [ih]
   constructor
   ·rintro ⟨k,h1,h2,h3⟩; exact ⟨k,by omega,by omega,h3⟩
   ·rintro ⟨k,h1,h2,h3⟩
    rcases Nat.lt_or_ge i k with h' | h'
    ·exact ⟨k,h',by omega,h3⟩
    ·have e:k=i:=by omega
     subst e; rw [h] at h3; simp at h3
  ·simp only [if_true,true_iff]
   exact ⟨i,Nat.le_refl _,by omega,h⟩
theorem e2a (c:Chart):∀ (f i:Nat) (s:Bool),a5y c f i s=true ↔ s=true∨∃ k,i≤k∧k < i+f∧(A4 c.acts k≠0∨A4 c.dues k≠0)
 | 0,i,s=>by
  simp only [a5y]
  constructor
  ·exact .inl
  ·rintro (h | ⟨k,h1,h2,_⟩)
   ·exact h
   ·omega
 | f+1,i,s=>by
  have ih:=e2a c f (i+1) (b1h c i s)
  unfold a5y
  rw [ih]
  have h1:b1h c i s=true ↔ s=true∨A4 c.acts i≠0∨A4 c.dues i≠0:=by
   simp [b1h,orB,A0,eqI,or_assoc]
  rw [h1]
  constructor
  ·rintro ((h | h) | ⟨k,a,b,h⟩)
   ·exact .inl h
   ·exact .inr ⟨i,Nat.le_refl _,by omega,h⟩
   ·exact .inr ⟨k,by omega,by omega,h⟩
  ·rintro (h | ⟨k,a,b,h⟩)
   ·exact .inl (.inl h)
   ·rcases Nat.lt_or_ge i k with h' | h'
    ·exact .inr ⟨k,h',by omega,h⟩
    ·have e:k=i:=by omega
     subst e; exact .inl (.inr h)
theorem b7t {m:Int} {l:List Int}:smS m l=false ↔ ∃ i,i < l.length∧inR (A4 l i) 0 m=false:=by
 unfold smS
 rw [b0p]
 have:A0 (l.any (a1o m))=false ↔ l.any (a1o m)=true:=by simp [A0]
 rw [this,i5i]
 simp [a1o,A0]
theorem h4n {c:Chart} {n:Nat} (ha:c.acts.length=n) (hd:c.dues.length=n):a2d c n 0=orB (A0 (smS 2 c.acts)) (A0 (smS (c.now+99) c.dues)):=by
 rw [Bool.eq_iff_iff,e1z]
 have e1:orB (A0 (smS 2 c.acts)) (A0 (smS (c.now+99) c.dues))=true ↔ smS 2 c.acts=false∨smS (c.now+99) c.dues=false:=by simp [orB,A0]
 rw [e1,b7t,b7t]
 have e2:∀ k,a9z c k=true ↔ inR (A4 c.acts k) 0 2=false∨inR (A4 c.dues k) 0 (c.now+99)=false:=fun k=>by simp [a9z,orB,A0]
 constructor
 ·rintro ⟨k,_,h2,h3⟩
  rcases (e2 k).1 h3 with h | h
  ·exact .inl ⟨k,by omega,h⟩
  ·exact .inr ⟨k,by omega,h⟩
 ·rintro (⟨k,h2,h3⟩ | ⟨k,h2,h3⟩)
  ·exact ⟨k,Nat.zero_le _,by omega,(e2 k).2 (.inl h3)⟩
  ·exact ⟨k,Nat.zero_le _,by omega,(e2 k).2 (.inr h3)⟩
theorem h1e {c:Chart} {n:Nat} (ha:c.acts.length=n) (hd:c.dues.length=n):a5y c n 0 false=A0 (A1 (smS 0 c.acts) (smS 0 c.dues)):=by
 rw [Bool.eq_iff_iff,e2a]
 have e1:A0 (A1 (smS 0 c.acts) (smS 0 c.dues))=true ↔ smS 0 c.acts=false∨smS 0 c.dues=false:=by
  cases smS 0 c.acts <;> cases smS 0 c.dues <;> simp [A0,A1]
 have e2:∀ x:Int,inR x 0 0=false ↔ x≠0:=fun x=>by
  by_cases h:x=0
  ·simp [inR,A1,leI,h]
  ·have:¬ (0≤x∧x≤0):=by omega
   simp [inR,A1,leI,h]; omega
 rw [e1,b7t,b7t]
 simp only [e2,Bool.false_eq_true,false_or]
 constructor
 ·rintro ⟨k,_,h2,h | h⟩
  ·exact .inl ⟨k,by omega,h⟩
  ·exact .inr ⟨k,by omega,h⟩
 ·rintro (⟨k,h2,h3⟩ | ⟨k,h2,h3⟩)
  ·exact ⟨k,Nat.zero_le _,by omega,.inl h3⟩
  ·exact ⟨k,Nat.zero_le _,by omega,.inr h3⟩
theorem b9b (acts:List Int) (act:Int):∀ (l:List Int) (n:Nat),n < C7 acts act l n ↔ ∃ k,k∈l∧A4 acts k=act
 | [],n=>by simp [C7]
 | x::l,n=>by
  unfold C7
  cases h:eqI (A4 acts x) act
  ·simp only [Bool.false_eq_true,if_false]
   rw [b9b acts act l n]
   have hx:A4 acts x≠act:=by simpa [eqI] using h
   simp [hx]
  ·simp only [if_true]
   have hx:A4 acts x=act:=by simpa [eqI] using h
   have h1:=b9b acts act l (n+1)
   have h2:n+1≤C7 acts act l (n+1):=by
    clear h1 h hx
    have:∀ (l:List Int) (m:Nat),m≤C7 acts act l m:=by
     intro l
     induction l with
     | nil=>intro m; simp [C7]
     | cons y l ih=>
      intro m
      unfold C7
      split
      ·have:=ih (m+1); omega
      ·exact ih m
    exact this l (n+1)
   constructor
   ·intro _; exact ⟨x,by simp,hx⟩
   ·intro _; omega
theorem b4u {p:Int}:∀ {l:List Step} {i:Nat} {k:Int},k∈B9 p i l ↔ ∃ (a:Nat) (h:a < l.length),k=(i+a:Nat)∧(l[a]).parent=p
 | [],i,k=>by simp [B9]
 | x::l,i,k=>by
  have ih:=b4u (p:=p) (l:=l) (i:=i+1) (k:=k)
  have tl:(∃ (a:Nat) (h:a < l.length),k=(i+1+a:Nat)∧(l[a]).parent=p) ↔ ∃ (a:Nat) (h:a < (x::l).length),k=(i+a:Nat)∧((x::l)[a]).parent=p∧0 < a:=by
   constructor
   ·rintro ⟨a,h,h1,h2⟩
    exact ⟨a+1,by simp; omega,by omega,by simpa using h2,by omega⟩
   ·rintro ⟨a,h,h1,h2,h3⟩
    cases a with
    | zero=>omega
    | succ a=>exact ⟨a,by simpa using h,by omega,by simpa using h2⟩
  unfold B9
  cases h:eqI x.parent p
  ·simp only [Bool.false_eq_true,if_false]
   rw [ih,tl]
   constructor
   ·rintro ⟨a,h,h1,h2,_⟩; exact ⟨a,h,h1,h2⟩
   ·rintro ⟨a,ha,h1,h2⟩
    refine ⟨a,ha,h1,h2,?_⟩
    cases a with
    | zero=>simp [eqI] at h; simp at h2; exact absurd h2 h
    | succ a=>omega
  ·simp only [if_true,List.mem_cons]
   rw [ih,tl]
   constructor
   ·rintro (h1 | ⟨a,h,h1,h2,_⟩)
    ·exact ⟨0,by simp,by simpa using h1,by simpa [eqI] using h⟩
    ·exact ⟨a,h,h1,h2⟩
   ·rintro ⟨a,ha,h1,h2⟩
    cases a with
    | zero=>exact .inl (by simpa using h1)
    | succ a=>exact .inr ⟨a+1,ha,h1,h2,by omega⟩
end Go.TM.Ft
