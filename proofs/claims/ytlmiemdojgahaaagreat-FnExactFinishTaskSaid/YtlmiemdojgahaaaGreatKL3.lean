/- What functions of the program come to, by the machine. -/
import Derived.Test.YtlmiemdojgahaaaGreatKL2
set_option linter.unusedSimpArgs false
set_option linter.unusedVariables false
set_option maxHeartbeats 4000000
namespace Go.TM.Ft
open Go Go.TM Go.Proofs Go.Proofs.Tryz
set_option maxRecDepth 20000
attribute [local congr] M0
attribute [local simp] K2 K6 J4 K3 H7 J9 H8 G9 J1 G3
def a8i (k:Int):Int:=if orB (eqI k 9) (eqI k 10)=true then 2 else 1
def is4 (k:Int):Int:=if leI 7 k=true then 2 else 1
def sAt (types:List Int) (k:Int):Int:=types.getD k.toNat 0
def a2q (n:Node) (types:List Int):Bool:=
 orB (A1 (ltI 2 n.kind) (A0 (eqI (sAt types n.left) (a8i n.kind)))) (A1 (inR n.kind 3 9) (A0 (eqI (sAt types n.right) (a8i n.kind))))
def M7:List Node→List Int→Bool × List Int
 | [],acc=>(true,acc)
 | n::r,acc=>if a2q n acc=true then (false,acc) else M7 r (acc++[is4 n.kind])
theorem i5b (all:List Node) (i k:Nat) (n:Node) (acc:List Int) (hall:all.length≤16) (hi:i < all.length) (hc:all[i]=n) (hs:acc.length=i)
   (cb : a2q n acc = false) (c2 : ltI 2 n.kind = false) (c3 : inR n.kind 3 9 = false) :
    C0 E (orc E) (296:Nat) (A6 E (orc E) (296:Nat) (k+1)) (A8 f296 0) ⟨62,[(0,nS 219 all),(4,.ref 4 1 [] 0 acc.length),(5,vI i)],[(4,⟨1,1,false,[.own 2 (iW acc)]⟩)],2⟩=
    some (.normal,⟨62,[(0,nS 219 all),(4,.ref 4 1 [] 0 (acc++[is4 n.kind]).length),(5,vI (i+1:Nat))],[(4,⟨1,1,false,[.own 2 (iW (acc++[is4 n.kind]))]⟩)],2⟩):=by
    have _:=cb
    have hlt:ltI (i:Int) (all.length:Int)=true:=C4 (by omega)
    have hw:IntKind.i64.wrap ((i:Int)+1)=((i+1:Nat):Int):=by rw [A5] <;> omega
    have hm1:acc.length+1≤C2:=by unfold C2; omega
    unfold a2q a8i at cb
    try unfold is4
    cases c9:orB (eqI n.kind 9) (eqI n.kind 10) <;> cases c7:leI 7 n.kind <;> rw [c9] at cb
    all_goals
      simp (maxSteps:=1000000) +contextual -dsimp [f296,a9f,hlt,hi,hc,hw,hm1,c9,c7,c2,c3,List.set]
theorem i5c (all:List Node) (i k:Nat) (n:Node) (acc:List Int) (hall:all.length≤16) (hi:i < all.length) (hc:all[i]=n) (hs:acc.length=i)
   (cb : a2q n acc = false) (c2 : ltI 2 n.kind = true) (c3 : inR n.kind 3 9 = false) (a : Nat) (ha : n.left = a) (ha2 : a < acc.length) :
    C0 E (orc E) (296:Nat) (A6 E (orc E) (296:Nat) (k+1)) (A8 f296 0) ⟨62,[(0,nS 219 all),(4,.ref 4 1 [] 0 acc.length),(5,vI i)],[(4,⟨1,1,false,[.own 2 (iW acc)]⟩)],2⟩=
    some (.normal,⟨62,[(0,nS 219 all),(4,.ref 4 1 [] 0 (acc++[is4 n.kind]).length),(5,vI (i+1:Nat))],[(4,⟨1,1,false,[.own 2 (iW (acc++[is4 n.kind]))]⟩)],2⟩):=by
    have hlt:ltI (i:Int) (all.length:Int)=true:=C4 (by omega)
    have hw:IntKind.i64.wrap ((i:Int)+1)=((i+1:Nat):Int):=by rw [A5] <;> omega
    have hm1:acc.length+1≤C2:=by unfold C2; omega
    unfold a2q a8i at cb
    try unfold is4
    cases c9:orB (eqI n.kind 9) (eqI n.kind 10) <;> cases c7:leI 7 n.kind <;> rw [c9] at cb
    all_goals
      have e1:sAt acc (a:Int)=acc[a]:=by simp [sAt,ha2]
      rw [ha,e1,c2,c3] at cb
      simp only [a9h,b5s,b6f,Bool.false_eq_true,if_false,if_true] at cb
      simp (maxSteps:=1000000) +contextual -dsimp [f296,a9f,hlt,hi,hc,hw,hm1,c9,c7,c2,c3,ha,ha2,cb,List.set]
theorem i5d (all:List Node) (i k:Nat) (n:Node) (acc:List Int) (hall:all.length≤16) (hi:i < all.length) (hc:all[i]=n) (hs:acc.length=i)
   (cb : a2q n acc = false) (c2 : ltI 2 n.kind = true) (c3 : inR n.kind 3 9 = true) (a b : Nat) (ha : n.left = a) (ha2 : a < acc.length) (hb : n.right = b) (hb2 : b < acc.length) :
    C0 E (orc E) (296:Nat) (A6 E (orc E) (296:Nat) (k+1)) (A8 f296 0) ⟨62,[(0,nS 219 all),(4,.ref 4 1 [] 0 acc.length),(5,vI i)],[(4,⟨1,1,false,[.own 2 (iW acc)]⟩)],2⟩=
    some (.normal,⟨62,[(0,nS 219 all),(4,.ref 4 1 [] 0 (acc++[is4 n.kind]).length),(5,vI (i+1:Nat))],[(4,⟨1,1,false,[.own 2 (iW (acc++[is4 n.kind]))]⟩)],2⟩):=by
    have hlt:ltI (i:Int) (all.length:Int)=true:=C4 (by omega)
    have hw:IntKind.i64.wrap ((i:Int)+1)=((i+1:Nat):Int):=by rw [A5] <;> omega
    have hm1:acc.length+1≤C2:=by unfold C2; omega
    unfold a2q a8i at cb
    try unfold is4
    cases c9:orB (eqI n.kind 9) (eqI n.kind 10) <;> cases c7:leI 7 n.kind <;> rw [c9] at cb
    all_goals
      have e1:sAt acc (a:Int)=acc[a]:=by simp [sAt,ha2]
      have e2:sAt acc (b:Int)=acc[b]:=by simp [sAt,hb2]
      rw [ha,e1,hb,e2,c2,c3] at cb
      simp only [a9h,Bool.false_eq_true,if_false,if_true] at cb
      simp (maxSteps:=1000000) +contextual -dsimp [f296,a9f,hlt,hi,hc,hw,hm1,c9,c7,c2,c3,ha,ha2,hb,hb2,cb,List.set]
theorem i5e (all:List Node) (i k:Nat) (n:Node) (acc:List Int) (hall:all.length≤16) (hi:i < all.length) (hc:all[i]=n) (hs:acc.length=i)
   (cb : a2q n acc = true) (c2 : ltI 2 n.kind = true) (c3 : inR n.kind 3 9 = false) (a : Nat) (ha : n.left = a) (ha2 : a < acc.length) :
    C0 E (orc E) (296:Nat) (A6 E (orc E) (296:Nat) (k+1)) (A8 f296 0) ⟨62,[(0,nS 219 all),(4,.ref 4 1 [] 0 acc.length),(5,vI i)],[(4,⟨1,1,false,[.own 2 (iW acc)]⟩)],2⟩=
    some (.ret,⟨62,[(2,.v (.slice none 0 0)),(3,vB false)],[(4,⟨1,1,false,[.own 2 (iW acc)]⟩)],2⟩):=by
    have hlt:ltI (i:Int) (all.length:Int)=true:=C4 (by omega)
    have hw:IntKind.i64.wrap ((i:Int)+1)=((i+1:Nat):Int):=by rw [A5] <;> omega
    have hm1:acc.length+1≤C2:=by unfold C2; omega
    unfold a2q a8i at cb
    try unfold is4
    cases c9:orB (eqI n.kind 9) (eqI n.kind 10) <;> cases c7:leI 7 n.kind <;> rw [c9] at cb
    all_goals
      have e1:sAt acc (a:Int)=acc[a]:=by simp [sAt,ha2]
      rw [ha,e1,c2,c3] at cb
      simp only [a9h,b5s,b6f,Bool.false_eq_true,if_false,if_true] at cb
      simp (maxSteps:=1000000) +contextual -dsimp [f296,hlt,hi,hc,c9,c7,c2,ha,ha2,cb,List.set]
theorem i5f (all:List Node) (i k:Nat) (n:Node) (acc:List Int) (hall:all.length≤16) (hi:i < all.length) (hc:all[i]=n) (hs:acc.length=i)
   (cb : a2q n acc = true) (c2 : ltI 2 n.kind = true) (c3 : inR n.kind 3 9 = true) (a b : Nat) (ha : n.left = a) (ha2 : a < acc.length) (hb : n.right = b) (hb2 : b < acc.length) :
    C0 E (orc E) (296:Nat) (A6 E (orc E) (296:Nat) (k+1)) (A8 f296 0) ⟨62,[(0,nS 219 all),(4,.ref 4 1 [] 0 acc.length),(5,vI i)],[(4,⟨1,1,false,[.own 2 (iW acc)]⟩)],2⟩=
    some (.ret,⟨62,[(2,.v (.slice none 0 0)),(3,vB false)],[(4,⟨1,1,false,[.own 2 (iW acc)]⟩)],2⟩):=by
    have hlt:ltI (i:Int) (all.length:Int)=true:=C4 (by omega)
    have hw:IntKind.i64.wrap ((i:Int)+1)=((i+1:Nat):Int):=by rw [A5] <;> omega
    have hm1:acc.length+1≤C2:=by unfold C2; omega
    unfold a2q a8i at cb
    try unfold is4
    cases c9:orB (eqI n.kind 9) (eqI n.kind 10) <;> cases c7:leI 7 n.kind <;> rw [c9] at cb
    all_goals
      have e1:sAt acc (a:Int)=acc[a]:=by simp [sAt,ha2]
      have e2:sAt acc (b:Int)=acc[b]:=by simp [sAt,hb2]
      rw [ha,e1,hb,e2,c2,c3] at cb
      simp only [a9h,Bool.false_eq_true,if_false,if_true] at cb
      simp (maxSteps:=1000000) +contextual -dsimp [f296,a9f,hlt,hi,hc,c9,c7,c2,c3,ha,ha2,hb,hb2,cb,List.set]
def a4s (k n:Int):Bool:=if eqI k 1=true then leI 1 n else if orB (eqI k 3) (eqI k 4)=true then leI 2 n else if eqI k 8=true then eqI n 2 else eqI n 0
theorem b5b (k n:Int):fo 268 [A (vI k),A (vI n)]=some (R (vB (a4s k n))):=by
 refine h9u 1 ?_
 cases h5:eqI k 1
 ·cases h6:eqI k 3
  ·cases h8:eqI k 4
   ·cases h7:eqI k 8
    ·simp -dsimp [f268,h5,h6,h8,h7,a4s]
    ·simp -dsimp [f268,h5,h6,h8,h7,a4s]
   ·simp -dsimp [f268,h5,h6,h8,a4s]
  ·simp -dsimp [f268,h5,h6,a4s]
 ·simp -dsimp [f268,h5,a4s]
def B9 (at_:Int):Nat→List Step→List Int
 | _,[]=>[]
 | i,s::r=>if eqI s.parent at_=true then (i:Int)::B9 at_ (i+1) r else B9 at_ (i+1) r
theorem c8j (all:List Step) (hall:all.length≤1000) (at_:Int):∀ (rest:List Step) (i:Nat) (acc:List Int),all.drop i=rest→acc.length≤i→
  A6 E (orc E) (196:Nat) (rest.length+1) (A8 f196 0) ⟨26,[(0,.sl 124 (all.map (sT 219))),(1,vI at_),(5,.ref 5 1 [] 0 acc.length),(6,vI i)],[(5,⟨1,1,false,[.own 2 (iE acc)]⟩)],2⟩=
  some (.exit 0,⟨26,[(0,.sl 124 (all.map (sT 219))),(1,vI at_),(5,.ref 5 1 [] 0 (acc++B9 at_ i rest).length),(6,vI (i+rest.length:Nat)),(11,vB false)],[(5,⟨1,1,false,[.own 2 (iE (acc++B9 at_ i rest))]⟩)],2⟩)
 | [],i,acc,h,ha=>by
  have hge:all.length≤i:=by simpa using h
  have hlt:ltI (i:Int) (all.length:Int)=false:=B6 (by omega)
  rw [C3]
  simp +contextual -dsimp [f196,hlt,B9]
 | s::rest,i,acc,h,ha=>by
  obtain ⟨hi,hc,hr⟩:=C6 h
  have hlt:ltI (i:Int) (all.length:Int)=true:=C4 (by omega)
  have hw:IntKind.i64.wrap ((i:Int)+1)=((i+1:Nat):Int):=by rw [A5] <;> omega
  have he:i+1+rest.length=i+(rest.length+1):=by omega
  have hm1:acc.length+1≤C2:=by unfold C2; omega
  cases c:eqI s.parent at_
  ·have ih:=c8j all hall at_ rest (i+1) acc hr (by omega)
   rw [he] at ih
   have hm:B9 at_ i (s::rest)=B9 at_ (i+1) rest:=by simp [B9,c]
   rw [hm]
   refine C1 ?_ (by simpa only [List.length_cons] using ih)
   simp (maxSteps:=1000000) +contextual -dsimp [f196,hlt,hi,hc,hw,c]
  ·have ih:=c8j all hall at_ rest (i+1) (acc++[(i:Int)]) hr (by simp; omega)
   rw [he] at ih
   have hm:acc++B9 at_ i (s::rest)=acc++[(i:Int)]++B9 at_ (i+1) rest:=by simp [B9,c]
   rw [hm]
   refine C1 ?_ (by simpa only [List.length_cons] using ih)
   simp (maxSteps:=1000000) +contextual -dsimp [f196,hlt,hi,hc,hw,c,hm1,List.set]
theorem b0n (l:List Step) (hl:l.length≤1000) (at_:Int):fo 196 [A (.sl 124 (l.map (sT 219))),A (vI at_)]=some ⟨.own 2 (iE (B9 at_ 0 l)),[],true⟩:=by
 have hlp:=c8j l hl at_ l 0 [] rfl (by simp)
 have hc:D9 (iE (B9 at_ 0 l))=true:=by
  have:∀ (l:List Int),D9 (iE l)=true:=fun l=>by induction l <;> simp_all [D9,N5,clean]
  exact this _
 refine h8a (l.length+1) ?_
 simp -dsimp [f196] at hlp
 simp (maxSteps:=1000000) +contextual -dsimp [f196,hlp,hc]
def Ahead (l:List Step) (m:Nat):Prop:=∀ (k:Nat) (h:k < l.length),k < m→-1≤(l[k]).parent∧(l[k]).parent < k
def Q8 (l:List Step) (p:Int):Nat→Int→Bool
 | 0,_=>false
 | f+1,at_=>if leI 0 at_=true then (if eqI at_ p=true then true else Q8 l p f (parOf l at_.toNat)) else false
theorem g1d (l:List Step) (i:Nat) (hi:i < l.length) (ha:Ahead l i):∀ (f:Nat) (at_:Int),-1≤at_→at_ < f→at_ < i→
  A6 E (orc E) (263:Nat) (f+1) (A8 f263 0) ⟨22,[(0,.sl 124 (l.map (sT 219))),(1,vI i),(5,vI at_)],[],2⟩=
  (if Q8 l (parOf l i) (f+1) at_=true then some (.ret,⟨22,[(4,vB true)],[],2⟩) else some (.exit 0,⟨22,[(0,.sl 124 (l.map (sT 219))),(1,vI i),(5,vI (-1)),(9,vB false)],[],2⟩))
 | 0,at_,h1,h2,h3=>by
  have e:at_=-1:=by omega
  subst e
  have hle:leI 0 (-1)=false:=rfl
  rw [C3]
  simp +contextual -dsimp [f263,hle,Q8]
 | f+1,at_,h1,h2,h3=>by
  cases hle:leI 0 at_
  ·have e:at_=-1:=by simp [leI] at hle; omega
   subst e
   rw [C3]
   simp +contextual -dsimp [f263,hle,Q8]
  ·obtain ⟨k,rfl⟩:=Int.eq_ofNat_of_zero_le (show 0≤at_ by simpa [leI] using hle)
   have hk:k < l.length:=by omega
   have hp:(l[i]).parent=parOf l i:=by simp [parOf,hi]
   have hpk:(l[k]).parent=parOf l k:=by simp [parOf,hk]
   obtain ⟨q1,q2⟩:=ha k hk (by omega)
   rw [hpk] at q1 q2
   cases c:eqI (k:Int) (parOf l i)
   ·have ih:=g1d l i hi ha f (parOf l k) q1 (by omega) (by omega)
    have hm:Q8 l (parOf l i) (f+1+1) k=Q8 l (parOf l i) (f+1) (parOf l k):=by simp [Q8,hle,c]
    rw [hm]
    refine C1 ?_ ih
    simp (maxSteps:=1000000) +contextual -dsimp [f263,hle,hi,hk,hp,hpk,c]
   ·have hm:Q8 l (parOf l i) (f+1+1) k=true:=by simp [Q8,hle,c]
    rw [hm,if_pos rfl]
    refine D3 ?_ (by simp)
    simp (maxSteps:=1000000) +contextual -dsimp [f263,hle,hi,hp,c]
theorem h4h (l:List Step) (hl:l.length≤1000) (i:Nat) (hi:i < l.length) (ha:Ahead l i):fo 263 [A (.sl 124 (l.map (sT 219))),A (vI i)]=some (R (vB (Q8 l (parOf l i) (i+1) ((i:Int) - 1)))):=by
 have hlp:=g1d l i hi ha i ((i:Int) - 1) (by omega) (by omega) (by omega)
 have hw:IntKind.i64.wrap ((i:Int) - 1)=(i:Int) - 1:=by rw [A5] <;> omega
 refine h9q (i+1) ?_
 simp -dsimp [f263] at hlp
 cases c:Q8 l (parOf l i) (i+1) ((i:Int) - 1)
 ·simp (maxSteps:=1000000) +contextual -dsimp [f263,hlp,hw,c]
 ·simp (maxSteps:=1000000) +contextual -dsimp [f263,hlp,hw,c]
theorem g1e (s:ByteArray) (hs:s.size < 2 ^ 62):∀ (rest:List UInt8) (i:Nat),s.data.toList.drop i=rest→
  A6 E (orc E) (265:Nat) (rest.length+1) (A8 f265 0) ⟨25,[(0,vS s),(3,vI i)],[],2⟩=
  (if W0 rest=true then some (.exit 0,⟨25,[(0,vS s),(3,vI (i+rest.length:Nat)),(7,vB false)],[],2⟩) else some (.ret,⟨25,[(2,vI 5)],[],2⟩))
 | [],i,h=>by
  have hge:s.size≤i:=by rw [← c2z]; exact List.drop_eq_nil_iff.1 h
  have hlt:ltI (i:Int) (s.size:Int)=false:=B6 (by omega)
  rw [C3]
  simp +contextual -dsimp [f265,hlt,W0]
 | b::rest,i,h=>by
  obtain ⟨hi,hb,hr⟩:=f5p h
  have hlt:ltI (i:Int) (s.size:Int)=true:=C4 (by omega)
  have hw:IntKind.i64.wrap ((i:Int)+1)=((i+1:Nat):Int):=by rw [A5] <;> omega
  have hx:=g0u s i b (by omega) (by simpa using hb)
  have hin:inR b.toNat 97 122=A0 (orB (ltI b.toNat 97) (ltI 122 b.toNat)):=by
   simp only [inR,A1,orB,A0,leI,ltI,Bool.not_or]
   congr 1 <;> (rw [← decide_not]; congr 1; simp)
  cases c:orB (ltI b.toNat 97) (ltI 122 b.toNat)
  ·have hm:W0 (b::rest)=W0 rest:=by simp [W0,hin,c,A0]
   have ih:=g1e s hs rest (i+1) hr
   have he:i+1+rest.length=i+(rest.length+1):=by omega
   rw [he] at ih
   rw [hm]
   refine C1 ?_ (by simpa only [List.length_cons] using ih)
   simp (maxSteps:=1000000) +contextual -dsimp [f265,hlt,hx,hw,c]
  ·have hm:W0 (b::rest)=false:=by simp [W0,hin,c,A0]
   rw [hm,if_neg (by simp)]
   refine D3 ?_ (by simp)
   simp (maxSteps:=1000000) +contextual -dsimp [f265,hlt,hx,c]
def a9k (s:ByteArray):Int:=if W0 s.data.toList=true then (if eqS s emp=true then 5 else if ltI 8 s.size=true then 2 else 0) else 5
theorem h4i (s:ByteArray) (hs:s.size < 2 ^ 62):fo 265 [A (vS s)]=some (R (vI (a9k s))):=by
 have hlp:=g1e s hs s.data.toList 0 rfl
 refine h9s (s.data.toList.length+1) ?_
 simp -dsimp [f265] at hlp
 cases c:W0 s.data.toList
 ·simp (maxSteps:=1000000) +contextual -dsimp [f265,hlp,c,a9k]
 ·simp (maxSteps:=1000000) +contextual -dsimp [f265,hlp,c,a9k]
def deepM (l:List Step):Nat→Int→Int
 | 0,_=>0
 | f+1,at_=>if leI 0 at_=true then 1+deepM l f (parOf l at_.toNat) else 0
theorem g1f (l:List Step) (i:Nat) (ha:Ahead l i):∀ (f:Nat) (at_ n:Int),-1≤at_→at_ < f→at_ < i→at_ < l.length→0≤n→n+at_ < 49→
  A6 E (orc E) (264:Nat) (f+1) (A8 f264 0) ⟨20,[(0,.sl 124 (l.map (sT 219))),(1,vI at_),(5,vI n)],[],2⟩=
  some (.exit 0,⟨20,[(0,.sl 124 (l.map (sT 219))),(1,vI (-1)),(5,vI (n+deepM l (f+1) at_)),(11,vB false)],[],2⟩)
 | 0,at_,n,h1,h2,h3,h4,h5,h6=>by
  have e:at_=-1:=by omega
  subst e
  have hle:leI 0 (-1)=false:=rfl
  rw [C3]
  simp +contextual -dsimp [f264,hle,deepM]
 | f+1,at_,n,h1,h2,h3,h4,h5,h6=>by
  cases hle:leI 0 at_
  ·have e:at_=-1:=by simp [leI] at hle; omega
   subst e
   rw [C3]
   simp +contextual -dsimp [f264,hle,deepM]
  ·obtain ⟨k,rfl⟩:=Int.eq_ofNat_of_zero_le (show 0≤at_ by simpa [leI] using hle)
   have hk:k < l.length:=by omega
   have hpk:(l[k]).parent=parOf l k:=by simp [parOf,hk]
   obtain ⟨q1,q2⟩:=ha k hk (by omega)
   rw [hpk] at q1 q2
   have hlt:ltI n 50=true:=C4 (by omega)
   have hw:IntKind.i64.wrap (n+1)=n+1:=by rw [A5] <;> omega
   have ih:=g1f l i ha f (parOf l k) (n+1) q1 (by omega) (by omega) (by omega) (by omega) (by omega)
   have hm:n+deepM l (f+1+1) k=n+1+deepM l (f+1) (parOf l k):=by
    rw [show deepM l (f+1+1) (k:Int)=1+deepM l (f+1) (parOf l k) from by rw [deepM,if_pos hle]; simp]
    omega
   rw [hm]
   refine C1 ?_ ih
   simp (maxSteps:=1000000) +contextual -dsimp [f264,hle,hlt,hk,hpk,hw]
theorem h4j (l:List Step) (hl:l.length≤24) (i:Nat) (hi:i < l.length) (ha:Ahead l (i+1)):fo 264 [A (.sl 124 (l.map (sT 219))),A (vI i)]=some (R (vI (deepM l (i+2) i))):=by
 have hlp:=g1f l (i+1) ha (i+1) (i:Int) 0 (by omega) (by omega) (by omega) (by omega) (by omega) (by omega)
 refine h9r (i+2) ?_
 simp -dsimp [f264] at hlp
 simp (maxSteps:=1000000) +contextual -dsimp [f264,hlp]
def a6u (l:List Step) (at_:Nat):Bool:=
 if orB (ltI (parOf l at_) 0) (A0 (eqI (A9 l (parOf l at_)) 3))=true then false
 else A0 (eqI (A4 (B9 (parOf l at_) 0 l) ((B9 (parOf l at_) 0 l).length - 1)) at_)
theorem d7i {p:Int}:∀ {l:List Step} {i k:Nat} {s:Step},l[k]?=some s→s.parent=p→((i+k:Nat):Int)∈B9 p i l
 | [],i,k,s,h,_=>by simp at h
 | x::l,i,0,s,h,hp=>by
  simp at h; subst h
  simp [B9,eqI,hp]
 | x::l,i,k+1,s,h,hp=>by
  have:=d7i (i:=i+1) (k:=k) (by simpa using h) hp
  have e:i+1+k=i+(k+1):=by omega
  rw [e] at this
  unfold B9
  split
  ·exact List.mem_cons_of_mem _ this
  ·exact this
theorem h0q (l:List Step) (hl:l.length≤1000) (at_:Nat) (ha:at_ < l.length) (hp:parOf l at_ < l.length):
  fo 269 [A (.sl 124 (l.map (sT 219))),A (vI at_)]=some (R (vB (a6u l at_))):=by
 have hpar:(l[at_]).parent=parOf l at_:=by simp [parOf,ha]
 refine h9v 1 ?_
 cases c1:ltI (parOf l at_) 0
 ·have p1:0≤parOf l at_:=by simp [ltI] at c1; omega
  obtain ⟨k,hk⟩:=Int.eq_ofNat_of_zero_le p1
  have hk2:k < l.length:=by omega
  have hkind:(l[k]).kind=A9 l (k:Int):=by simp [A9,hk2]
  rw [hk] at hpar c1
  cases c2:eqI (A9 l (k:Int)) 3
  ·simp (maxSteps:=1000000) +contextual -dsimp [f269,ha,hpar,hk,hk2,hkind,c1,c2,a6u]
  ·have g:=b0n l hl (k:Int)
   have hm:((0+at_:Nat):Int)∈B9 (k:Int) 0 l:=d7i (k:=at_) (s:=l[at_]) (by simp [ha]) hpar
   have hpos:0 < (B9 (k:Int) 0 l).length:=List.length_pos_of_mem hm
   have hkl:(B9 (k:Int) 0 l).length≤1000:=by
    have:∀ (l:List Step) (i:Nat),(B9 (k:Int) i l).length≤l.length:=fun l=>by
     induction l with
     | nil=>intro i; simp [B9]
     | cons s l ih=>intro i; unfold B9; split <;> simp <;> have:=ih (i+1) <;> omega
    have:=this l 0; omega
   have hw:IntKind.i64.wrap (((B9 (k:Int) 0 l).length:Int) - 1)=(((B9 (k:Int) 0 l).length - 1:Nat):Int):=by rw [A5] <;> omega
   have hlt:(B9 (k:Int) 0 l).length - 1 < (B9 (k:Int) 0 l).length:=by omega
   have e1:A4 (B9 (k:Int) 0 l) (((B9 (k:Int) 0 l).length:Int) - 1)=(B9 (k:Int) 0 l)[(B9 (k:Int) 0 l).length - 1]:=by
    have:(((B9 (k:Int) 0 l).length:Int) - 1).toNat=(B9 (k:Int) 0 l).length - 1:=by omega
    simp [A4,this,hlt]
   have hse:L5 (iE (B9 (k:Int) 0 l))=iE (B9 (k:Int) 0 l):=a3p (f:=fun n=>[vI n]) (g:=fun n=>[vI n]) (fun a=>by simp [O5,L9]) _
   simp (maxSteps:=1000000) +contextual -dsimp [f269,ha,hpar,hk,hk2,hkind,c1,c2,g,hse,hw,hlt,e1,a6u]
 ·simp (maxSteps:=1000000) +contextual -dsimp [f269,ha,hpar,c1,a6u]
theorem g1g (all:List Node) (hall:all.length≤16):∀ (rest:List Node) (i:Nat) (acc:List Int),all.drop i=rest→acc.length=i→
    (∀ (k:Nat) (n:Node),rest[k]?=some n→(ltI 2 n.kind=true→0≤n.left∧n.left < (i+k:Nat))∧(inR n.kind 3 9=true→0≤n.right∧n.right < (i+k:Nat)))→
    A6 E (orc E) (296:Nat) (rest.length+1) (A8 f296 0) ⟨62,[(0,nS 219 all),(4,.ref 4 1 [] 0 acc.length),(5,vI i)],[(4,⟨1,1,false,[.own 2 (iW acc)]⟩)],2⟩=
    (if (M7 rest acc).1 = true then some (.exit 0, ⟨62, [(0, nS 219 all), (4, .ref 4 1 [] 0 (M7 rest acc).2.length), (5, vI (i + rest.length : Nat)), (13, vB false)], [(4, ⟨1, 1, false, [.own 2 (iW (M7 rest acc).2)]⟩)], 2⟩)
     else some (.ret,⟨62,[(2,.v (.slice none 0 0)),(3,vB false)],[(4,⟨1,1,false,[.own 2 (iW (M7 rest acc).2)]⟩)],2⟩))
  | [],i,acc,h,hs,ho=>by
    have hge:all.length≤i:=by simpa using h
    have hlt:ltI (i:Int) (all.length:Int)=false:=B6 (by omega)
    rw [C3]
    simp +contextual -dsimp [f296,hlt,M7]
  | n::rest,i,acc,h,hs,ho=>by
    obtain ⟨hi,hc,hr⟩:=C6 h
    have he:i+1+rest.length=i+(rest.length+1):=by omega
    have ih:=g1g all hall rest (i+1) (acc++[is4 n.kind]) hr (by simp; omega) (fun k m hk=>by
      have:=ho (k+1) m (by simpa using hk)
      have e:i+1+k=i+(k+1):=by omega
      rw [e]; exact this)
    rw [he] at ih
    obtain ⟨o1,o2⟩:=ho 0 n (by simp)
    have z:ltI 2 n.kind=false∧inR n.kind 3 9=false∨ltI 2 n.kind=true∧inR n.kind 3 9=false∨ltI 2 n.kind=true∧inR n.kind 3 9=true:=by
      cases c2:ltI 2 n.kind
      · left
        refine ⟨rfl,?_⟩
        simp [ltI,inR,A1,leI] at c2 ⊢; omega
      · right
        cases c3:inR n.kind 3 9 <;> simp
    cases cb:a2q n acc
    · have hm : M7 (n :: rest) acc = M7 rest (acc ++ [is4 n.kind]) := by simp [M7, cb]
      rw [hm]
      refine C1 ?_ (by simpa only [List.length_cons] using ih)
      rcases z with ⟨c2,c3⟩ | ⟨c2,c3⟩ | ⟨c2,c3⟩
      · exact i5b all i _ n acc hall hi hc hs cb c2 c3
      · obtain ⟨p1, p2⟩ := o1 c2
        obtain ⟨a,ha⟩:=Int.eq_ofNat_of_zero_le p1
        exact i5c all i _ n acc hall hi hc hs cb c2 c3 a ha (by omega)
      · obtain ⟨p1, p2⟩ := o1 c2
        obtain ⟨a,ha⟩:=Int.eq_ofNat_of_zero_le p1
        obtain ⟨p3,p4⟩:=o2 c3
        obtain ⟨b,hb⟩:=Int.eq_ofNat_of_zero_le p3
        exact i5d all i _ n acc hall hi hc hs cb c2 c3 a b ha (by omega) hb (by omega)
    · have hm : M7 (n :: rest) acc = (false, acc) := by simp [M7, cb]
      rw [hm,if_neg (by simp)]
      refine D3 ?_ (by simp)
      rcases z with ⟨c2,c3⟩ | ⟨c2,c3⟩ | ⟨c2,c3⟩
      · unfold a2q at cb
        rw [c2,c3] at cb
        simp [orB,A1] at cb
      · obtain ⟨p1, p2⟩ := o1 c2
        obtain ⟨a,ha⟩:=Int.eq_ofNat_of_zero_le p1
        exact i5e all i _ n acc hall hi hc hs cb c2 c3 a ha (by omega)
      · obtain ⟨p1, p2⟩ := o1 c2
        obtain ⟨a,ha⟩:=Int.eq_ofNat_of_zero_le p1
        obtain ⟨p3,p4⟩:=o2 c3
        obtain ⟨b,hb⟩:=Int.eq_ofNat_of_zero_le p3
        exact i5f all i _ n acc hall hi hc hs cb c2 c3 a b ha (by omega) hb (by omega)
def RTy (l:List Node):Res:=if (M7 l []).1=true then ⟨.tup [.own 2 (iW (M7 l []).2),vB true],[],true⟩ else ⟨.tup [.own 2 [],vB false],[],true⟩
theorem h0r (l:List Node) (hl:l.length≤16) (hg:a4y l):fo 296 [A (nS 219 l)]=some (RTy l):=by
 have hlp:=g1g l hl l 0 [] rfl rfl (fun k n hk=>by
  have hk2:k < l.length:=(List.getElem?_eq_some_iff.1 hk).1
  have he:=(List.getElem?_eq_some_iff.1 hk).2
  have:=hg k hk2
  rw [he] at this
  simpa using this)
 refine i0n (l.length+1) ?_
 simp -dsimp [f296] at hlp
 unfold RTy
 cases c:(M7 l []).1
 ·rw [c] at hlp
  simp (maxSteps:=1000000) +contextual -dsimp [f296,hlp,List.set]
 ·rw [c] at hlp
  have hc:=b5a (M7 l []).2
  simp (maxSteps:=1000000) +contextual -dsimp [f296,hlp,hc,List.set]
theorem d4w:∀ (l:List Node) (acc:List Int),(M7 l acc).1=true→(M7 l acc).2.length=acc.length+l.length
 | [],acc,_=>by simp [M7]
 | n::l,acc,h=>by
  unfold M7 at h ⊢
  split at h
  ·simp at h
  ·rename_i hc
   rw [if_neg hc]
   rw [d4w l _ h]; simp; omega
theorem g7x {l:List Node} (h:U9 l=0):1≤l.length∧l.length≤16∧a0c 0 l=0:=by
 unfold U9 at h
 split at h
 ·simp at h
 ·rename_i c1
  split at h
  ·rename_i c2; rw [h] at c2; simp [A0,eqI] at c2
  ·rename_i c2
   simp [orB,ltI] at c1
   simp [A0,eqI] at c2
   omega
theorem g6k {l:List Node} (h0:a0c 0 l=0):a4y l:=fun k hk=>by
 have hz:=c3f h0 k l[k] (by simp [hk])
 rw [Nat.zero_add] at hz
 exact d7g hz
def a4p (l:List Node):Int × Int:=
 if A0 (eqI (U9 l) 0)=true then (0,U9 l)
 else if (M7 l []).1=true then (A4 (M7 l []).2 (l.length - 1),0) else (0,7)
theorem h4k (l:List Node) (hl:l.length < 2 ^ 62):fo 270 [A (nS 219 l)]=some (R2 (vI (a4p l).1) (vI (a4p l).2)):=by
 have g:=c3g l hl
 refine h9w 1 ?_
 cases c1:eqI (U9 l) 0
 ·simp (maxSteps:=1000000) +contextual -dsimp [f270,g,c1,a4p]
 ·have e0:U9 l=0:=by simpa [eqI] using c1
  obtain ⟨h1,h2,h3⟩:=g7x e0
  have g2:=h0r l h2 (g6k h3)
  unfold RTy at g2
  cases c2:(M7 l []).1
  ·rw [c2] at g2
   simp only [Bool.false_eq_true,if_false] at g2
   simp (maxSteps:=1000000) +contextual -dsimp [f270,g,e0,c2,g2,a4p,B7]
  ·rw [c2] at g2
   simp only [if_true] at g2
   have hlen:=d4w l [] c2
   simp at hlen
   have hlt:l.length - 1 < (M7 l []).2.length:=by omega
   have hlt2:l.length - 1 < l.length:=by omega
   have hw:IntKind.i64.wrap ((l.length:Int) - 1)=((l.length - 1:Nat):Int):=by rw [A5] <;> omega
   have e1:A4 (M7 l []).2 ((l.length:Int) - 1)=(M7 l []).2[l.length - 1]:=by
    have:((l.length:Int) - 1).toNat=l.length - 1:=by omega
    simp [A4,this,hlt]
   simp (maxSteps:=1000000) +contextual -dsimp [f270,g,e0,c2,g2,hlen,hw,hlt2,e1,a4p,B7,d7h]
def a2y (l:List Node) (want:Int):Int:=
 if eqI l.length 0=true then 0
 else if A0 (eqI (a4p l).2 0)=true then (a4p l).2
 else if A0 (eqI (a4p l).1 want)=true then 7 else 0
theorem d7j (l:List Node) (hl:l.length < 2 ^ 62) (want:Int):fo 224 [A (nS 219 l),A (vI want)]=some (R (vI (a2y l want))):=by
 have g:=h4k l hl
 refine h8l 1 ?_
 cases c1:eqI l.length 0
 ·cases c2:eqI (a4p l).2 0
  ·simp (maxSteps:=1000000) +contextual -dsimp [f224,g,c1,c2,a2y]
  ·cases c3:eqI (a4p l).1 want
   ·simp (maxSteps:=1000000) +contextual -dsimp [f224,g,c1,c2,c3,a2y]
   ·simp (maxSteps:=1000000) +contextual -dsimp [f224,g,c1,c2,c3,a2y]
 ·simp (maxSteps:=1000000) +contextual -dsimp [f224,c1,a2y]
def a8j (s:Step):Bool:=A1 (A1 (orB (eqI s.kind 2) (eqS s.name emp)) (orB (inR s.kind 5 8) (eqI s.arg 0))) (orB (eqI s.kind 7) (eqI s.expr.length 0))
theorem b2r (s:Step):fo 262 [A (.ipt (sT 219 s))]=some (R (vB (a8j s))):=h2n s
def a1p (s:Step) (i:Nat):Bool:=orB (A1 (eqI (i:Int) 0) (A0 (eqI s.parent (-1)))) (A1 (ltI 0 (i:Int)) (A0 (inR s.parent 0 ((i:Int) - 1))))
def a9u (l:List Step) (i:Nat):Bool:=Q8 l (parOf l i) (i+1) ((i:Int) - 1)
def a8k (l:List Step) (i:Nat):Int:=deepM l (i+2) i
theorem i1u (l:List Step) (hl:l.length≤1000) (i:Nat) (hi:i < l.length) (ha:Ahead l i):fo 263 [A (.sl 124 (l.map (sT 219))),A (vI i)]=some (R (vB (a9u l i))):=h4h l hl i hi ha
theorem c7m (l:List Step) (hl:l.length≤24) (i:Nat) (hi:i < l.length) (ha:Ahead l (i+1)):fo 264 [A (.sl 124 (l.map (sT 219))),A (vI i)]=some (R (vI (a8k l i))):=h4j l hl i hi ha
def a6x (s:Step):Int:=
 if A0 (W6 s.kind s.arg)=true then 3 else if eqI s.kind 7=true then U9 s.expr else 0
def one4M (l:List Step) (i:Nat) (s:Step):Int:=
 if orB (A0 (inR s.kind 1 8)) (A0 (a8j s))=true then 1
 else if a1p s i=true then 3
 else if A1 (ltI 0 (i:Int)) (A0 (a9u l i))=true then 1
 else if ltI 7 (a8k l i)=true then 2
 else if eqI s.kind 2=true then (if A0 (eqI (a9k s.name) 0)=true then a9k s.name else a6x s)
 else a6x s
theorem c7n {s:Step} {i:Nat} (h:a1p s i=false):-1≤s.parent∧s.parent < i:=by
 unfold a1p at h
 simp only [orB,A1,A0,inR,leI,ltI,eqI,Bool.or_eq_false_iff,Bool.and_eq_false_iff,Bool.not_eq_false',decide_eq_true_eq,decide_eq_false_iff_not,beq_eq_false_iff_ne,beq_iff_eq,Bool.and_eq_true] at h
 omega
theorem i1v (l:List Step) (hl:l.length≤24) (i:Nat) (hi:i < l.length) (ha:Ahead l i) (hn:(l[i]).name.size < 2 ^ 62) (hx:(l[i]).expr.length < 2 ^ 62):
  fo 222 [A (.sl 124 (l.map (sT 219))),A (vI i)]=some (R (vI (one4M l i l[i]))):=by
 have hw:IntKind.i64.wrap ((i:Int) - 1)=(i:Int) - 1:=by rw [A5] <;> omega
 have g1:=i1u l (by omega) i hi ha
 have g3:=h4i (l[i]).name hn
 have g4:=c3g (l[i]).expr hx
 refine h8j 1 ?_
 cases c1:orB (A0 (inR (l[i]).kind 1 8)) (A0 (a8j (l[i])))
 ·cases c2:a1p (l[i]) i
  ·have ha2:Ahead l (i+1):=fun k hk hk2=>by
    by_cases e:k=i
    ·subst e; exact c7n c2
    ·exact ha k hk (by omega)
   have g2:=c7m l hl i hi ha2
   have d2:=c2
   unfold a1p at d2
   cases c3:A1 (ltI 0 (i:Int)) (A0 (a9u l i))
   ·cases c4:ltI 7 (a8k l i)
    ·cases c5:eqI (l[i]).kind 2
     ·cases c6:W6 (l[i]).kind (l[i]).arg <;> cases c7:eqI (l[i]).kind 7
      all_goals simp (maxSteps:=1000000) +contextual -dsimp [f222,C8,b2r,f5o,hi,hw,g1,g2,g4,c1,c2,d2,c3,c4,c5,c6,c7,one4M,a6x]
     ·have c7:eqI (l[i]).kind 7=false:=by simp [eqI] at c5 ⊢; omega
      cases c8:eqI (a9k (l[i]).name) 0 <;> cases c6:W6 (l[i]).kind (l[i]).arg
      all_goals simp (maxSteps:=1000000) +contextual -dsimp [f222,C8,b2r,f5o,hi,hw,g1,g2,g3,c1,c2,d2,c3,c4,c5,c6,c7,c8,one4M,a6x]
    ·simp (maxSteps:=1000000) +contextual -dsimp [f222,C8,b2r,hi,hw,g1,g2,c1,c2,d2,c3,c4,one4M]
   ·simp (maxSteps:=1000000) +contextual -dsimp [f222,C8,b2r,hi,hw,g1,c1,c2,d2,c3,one4M]
  ·have d2:=c2
   unfold a1p at d2
   simp (maxSteps:=1000000) +contextual -dsimp [f222,C8,b2r,hi,hw,c1,c2,d2,one4M]
 ·simp (maxSteps:=1000000) +contextual -dsimp [f222,C8,b2r,hi,c1,one4M]
theorem a2h (l:List Int):L5 (iE l)=iE l:=a3p (f:=fun n=>[vI n]) (g:=fun n=>[vI n]) (fun a=>by simp [O5,L9]) _
def kidsN (l:List Step) (i:Int):Int:=(B9 i 0 l).length
def a8z (l:List Step) (i:Nat) (s:Step):Int:=
 if A0 (a4s s.kind (kidsN l i))=true then 1
 else if A0 (eqB (a6u l i) (ltI 0 s.cond.length))=true then 1
 else if ltI 0 s.cond.length=true then U9 s.cond else 0
def a1f (l:List Step):Nat→List Step→Int
 | _,[]=>0
 | i,s::r=>if eqI (a8z l i s) 0=true then a1f l (i+1) r else a8z l i s
theorem g1h (all:List Step) (hall:all.length≤24) (hp:∀ k,k < all.length→parOf all k < all.length) (hx:∀ s,s∈all→s.cond.length < 2 ^ 62):∀ (rest:List Step) (i:Nat),all.drop i=rest→
  A6 E (orc E) (223:Nat) (rest.length+1) (A8 f223 0) ⟨49,[(0,.sl 124 (all.map (sT 219))),(3,vI i)],[],2⟩=
  (if eqI (a1f all i rest) 0=true then some (.exit 0,⟨49,[(0,.sl 124 (all.map (sT 219))),(3,vI (i+rest.length:Nat)),(8,vB false)],[],2⟩) else some (.ret,⟨49,[(2,vI (a1f all i rest))],[],2⟩))
 | [],i,h=>by
  have hge:all.length≤i:=by simpa using h
  have hlt:ltI (i:Int) (all.length:Int)=false:=B6 (by omega)
  rw [C3]
  simp +contextual -dsimp [f223,hlt,a1f,eqI]
 | s::rest,i,h=>by
  obtain ⟨hi,hc,hr⟩:=C6 h
  have hlt:ltI (i:Int) (all.length:Int)=true:=C4 (by omega)
  have hw:IntKind.i64.wrap ((i:Int)+1)=((i+1:Nat):Int):=by rw [A5] <;> omega
  have he:i+1+rest.length=i+(rest.length+1):=by omega
  have g1:=b0n all (by omega) i
  have g2:=h0q all (by omega) i hi (hp i hi)
  have g3:=c3g s.cond (hx s (by rw [← hc]; exact List.getElem_mem _))
  have hs:=a2h (B9 (i:Int) 0 all)
  cases c:eqI (a8z all i s) 0
  ·have hm:a1f all i (s::rest)=a8z all i s:=by simp [a1f,c]
   rw [hm,c,if_neg (by simp)]
   refine D3 ?_ (by simp)
   unfold a8z kidsN at c ⊢
   cases c1:a4s s.kind (B9 (i:Int) 0 all).length
   ·simp (maxSteps:=1000000) +contextual -dsimp [f223,b5b,hlt,hi,hc,g1,hs,c1]
   ·cases c2:eqB (a6u all i) (ltI 0 s.cond.length)
    ·simp (maxSteps:=1000000) +contextual -dsimp [f223,b5b,hlt,hi,hc,g1,hs,g2,c1,c2]
    ·cases c3:ltI 0 s.cond.length
     ·rw [c1,c2,c3] at c; simp [A0,eqI] at c
     ·have c2':=c2
      rw [c3] at c2'
      cases c4:eqI (U9 s.cond) 0
      ·simp (maxSteps:=1000000) +contextual -dsimp [f223,b5b,hlt,hi,hc,g1,hs,g2,g3,c1,c2',c3,c4]
      ·rw [c1,c2,c3] at c; simp [A0,c4] at c
  ·have ih:=g1h all hall hp hx rest (i+1) hr
   rw [he] at ih
   have hm:a1f all i (s::rest)=a1f all (i+1) rest:=by simp [a1f,c]
   rw [hm]
   refine C1 ?_ (by simpa only [List.length_cons] using ih)
   unfold a8z kidsN at c
   cases c1:a4s s.kind (B9 (i:Int) 0 all).length
   ·rw [c1] at c; simp [A0,eqI] at c
   ·cases c2:eqB (a6u all i) (ltI 0 s.cond.length)
    ·rw [c1,c2] at c; simp [A0,eqI] at c
    ·cases c3:ltI 0 s.cond.length
     ·have c2':=c2
      rw [c3] at c2'
      simp (maxSteps:=1000000) +contextual -dsimp [f223,b5b,hlt,hi,hc,hw,g1,hs,g2,c1,c2',c3]
     ·have c2':=c2
      rw [c3] at c2'
      cases c4:eqI (U9 s.cond) 0
      ·rw [c1,c2,c3] at c; simp [A0,c4] at c
      ·simp (maxSteps:=1000000) +contextual -dsimp [f223,b5b,hlt,hi,hc,hw,g1,hs,g2,g3,c1,c2',c3,c4]
theorem h0s (l:List Step) (hl:l.length≤24) (hp:∀ k,k < l.length→parOf l k < l.length) (hx:∀ s,s∈l→s.cond.length < 2 ^ 62):
  fo 223 [A (.sl 124 (l.map (sT 219)))]=some (R (vI (a1f l 0 l))):=by
 have hlp:=g1h l hl hp hx l 0 rfl
 refine h8k (l.length+1) ?_
 simp -dsimp [f223] at hlp
 cases c:eqI (a1f l 0 l) 0
 ·rw [c] at hlp
  simp (maxSteps:=1000000) +contextual -dsimp [f223,hlp]
 ·rw [c] at hlp
  have c':a1f l 0 l=0:=by simpa [eqI] using c
  simp (maxSteps:=1000000) +contextual -dsimp [f223,c',hlp]
end Go.TM.Ft
