/- What functions of the program come to, by the machine. -/
import Derived.Test.YtlmiemdojgahaaaGreatJL2
set_option linter.unusedSimpArgs false
set_option linter.unusedVariables false
set_option maxHeartbeats 4000000
namespace Go.TM.Ft
open Go Go.TM Go.Proofs Go.Proofs.Tryz
set_option maxRecDepth 20000
attribute [local congr] K9
attribute [local simp] J8 K0 J0 J9 H3 J6 H4 G4 H5 G1
def a7u (k:Int):Int:=if orB (eqI k 9) (eqI k 10)=true then 2 else 1
def is4 (k:Int):Int:=if leI 7 k=true then 2 else 1
def sAt (types:List Int) (k:Int):Int:=types.getD k.toNat 0
def a2o (n:Node) (types:List Int):Bool:=
 orB (A2 (ltI 2 n.kind) (A0 (eqI (sAt types n.left) (a7u n.kind)))) (A2 (inR n.kind 3 9) (A0 (eqI (sAt types n.right) (a7u n.kind))))
def L5:List Node→List Int→Bool × List Int
 | [],acc=>(true,acc)
 | n::r,acc=>if a2o n acc=true then (false,acc) else L5 r (acc++[is4 n.kind])
theorem h4b (all:List Node) (i k:Nat) (n:Node) (acc:List Int) (hall:all.length≤16) (hi:i < all.length) (hc:all[i]=n) (hs:acc.length=i)
   (cb : a2o n acc = false) (c2 : ltI 2 n.kind = false) (c3 : inR n.kind 3 9 = false) :
    B6 E (orc E) (296:Nat) (A5 E (orc E) (296:Nat) (k+1)) (B3 f296 0) ⟨62,[(0,nS 219 all),(4,.ref 4 1 [] 0 acc.length),(5,vI i)],[(4,⟨1,1,false,[.own 2 (iW acc)]⟩)],2⟩=
    some (.normal,⟨62,[(0,nS 219 all),(4,.ref 4 1 [] 0 (acc++[is4 n.kind]).length),(5,vI (i+1:Nat))],[(4,⟨1,1,false,[.own 2 (iW (acc++[is4 n.kind]))]⟩)],2⟩):=by
    have _:=cb
    have hlt:ltI (i:Int) (all.length:Int)=true:=C5 (by omega)
    have hw:IntKind.i64.wrap ((i:Int)+1)=((i+1:Nat):Int):=by rw [A6] <;> omega
    have hm1:acc.length+1≤B9:=by unfold B9; omega
    unfold a2o a7u at cb
    try unfold is4
    cases c9:orB (eqI n.kind 9) (eqI n.kind 10) <;> cases c7:leI 7 n.kind <;> rw [c9] at cb
    all_goals
      simp (maxSteps:=1000000) +contextual -dsimp [f296,a8t,hlt,hi,hc,hw,hm1,c9,c7,c2,c3,List.set]
theorem h4c (all:List Node) (i k:Nat) (n:Node) (acc:List Int) (hall:all.length≤16) (hi:i < all.length) (hc:all[i]=n) (hs:acc.length=i)
   (cb : a2o n acc = false) (c2 : ltI 2 n.kind = true) (c3 : inR n.kind 3 9 = false) (a : Nat) (ha : n.left = a) (ha2 : a < acc.length) :
    B6 E (orc E) (296:Nat) (A5 E (orc E) (296:Nat) (k+1)) (B3 f296 0) ⟨62,[(0,nS 219 all),(4,.ref 4 1 [] 0 acc.length),(5,vI i)],[(4,⟨1,1,false,[.own 2 (iW acc)]⟩)],2⟩=
    some (.normal,⟨62,[(0,nS 219 all),(4,.ref 4 1 [] 0 (acc++[is4 n.kind]).length),(5,vI (i+1:Nat))],[(4,⟨1,1,false,[.own 2 (iW (acc++[is4 n.kind]))]⟩)],2⟩):=by
    have hlt:ltI (i:Int) (all.length:Int)=true:=C5 (by omega)
    have hw:IntKind.i64.wrap ((i:Int)+1)=((i+1:Nat):Int):=by rw [A6] <;> omega
    have hm1:acc.length+1≤B9:=by unfold B9; omega
    unfold a2o a7u at cb
    try unfold is4
    cases c9:orB (eqI n.kind 9) (eqI n.kind 10) <;> cases c7:leI 7 n.kind <;> rw [c9] at cb
    all_goals
      have e1:sAt acc (a:Int)=acc[a]:=by simp [sAt,ha2]
      rw [ha,e1,c2,c3] at cb
      simp only [a8v,b4o,b4z,Bool.false_eq_true,if_false,if_true] at cb
      simp (maxSteps:=1000000) +contextual -dsimp [f296,a8t,hlt,hi,hc,hw,hm1,c9,c7,c2,c3,ha,ha2,cb,List.set]
theorem h4d (all:List Node) (i k:Nat) (n:Node) (acc:List Int) (hall:all.length≤16) (hi:i < all.length) (hc:all[i]=n) (hs:acc.length=i)
   (cb : a2o n acc = false) (c2 : ltI 2 n.kind = true) (c3 : inR n.kind 3 9 = true) (a b : Nat) (ha : n.left = a) (ha2 : a < acc.length) (hb : n.right = b) (hb2 : b < acc.length) :
    B6 E (orc E) (296:Nat) (A5 E (orc E) (296:Nat) (k+1)) (B3 f296 0) ⟨62,[(0,nS 219 all),(4,.ref 4 1 [] 0 acc.length),(5,vI i)],[(4,⟨1,1,false,[.own 2 (iW acc)]⟩)],2⟩=
    some (.normal,⟨62,[(0,nS 219 all),(4,.ref 4 1 [] 0 (acc++[is4 n.kind]).length),(5,vI (i+1:Nat))],[(4,⟨1,1,false,[.own 2 (iW (acc++[is4 n.kind]))]⟩)],2⟩):=by
    have hlt:ltI (i:Int) (all.length:Int)=true:=C5 (by omega)
    have hw:IntKind.i64.wrap ((i:Int)+1)=((i+1:Nat):Int):=by rw [A6] <;> omega
    have hm1:acc.length+1≤B9:=by unfold B9; omega
    unfold a2o a7u at cb
    try unfold is4
    cases c9:orB (eqI n.kind 9) (eqI n.kind 10) <;> cases c7:leI 7 n.kind <;> rw [c9] at cb
    all_goals
      have e1:sAt acc (a:Int)=acc[a]:=by simp [sAt,ha2]
      have e2:sAt acc (b:Int)=acc[b]:=by simp [sAt,hb2]
      rw [ha,e1,hb,e2,c2,c3] at cb
      simp only [a8v,Bool.false_eq_true,if_false,if_true] at cb
      simp (maxSteps:=1000000) +contextual -dsimp [f296,a8t,hlt,hi,hc,hw,hm1,c9,c7,c2,c3,ha,ha2,hb,hb2,cb,List.set]
theorem h4e (all:List Node) (i k:Nat) (n:Node) (acc:List Int) (hall:all.length≤16) (hi:i < all.length) (hc:all[i]=n) (hs:acc.length=i)
   (cb : a2o n acc = true) (c2 : ltI 2 n.kind = true) (c3 : inR n.kind 3 9 = false) (a : Nat) (ha : n.left = a) (ha2 : a < acc.length) :
    B6 E (orc E) (296:Nat) (A5 E (orc E) (296:Nat) (k+1)) (B3 f296 0) ⟨62,[(0,nS 219 all),(4,.ref 4 1 [] 0 acc.length),(5,vI i)],[(4,⟨1,1,false,[.own 2 (iW acc)]⟩)],2⟩=
    some (.ret,⟨62,[(2,.v (.slice none 0 0)),(3,vB false)],[(4,⟨1,1,false,[.own 2 (iW acc)]⟩)],2⟩):=by
    have hlt:ltI (i:Int) (all.length:Int)=true:=C5 (by omega)
    have hw:IntKind.i64.wrap ((i:Int)+1)=((i+1:Nat):Int):=by rw [A6] <;> omega
    have hm1:acc.length+1≤B9:=by unfold B9; omega
    unfold a2o a7u at cb
    try unfold is4
    cases c9:orB (eqI n.kind 9) (eqI n.kind 10) <;> cases c7:leI 7 n.kind <;> rw [c9] at cb
    all_goals
      have e1:sAt acc (a:Int)=acc[a]:=by simp [sAt,ha2]
      rw [ha,e1,c2,c3] at cb
      simp only [a8v,b4o,b4z,Bool.false_eq_true,if_false,if_true] at cb
      simp (maxSteps:=1000000) +contextual -dsimp [f296,hlt,hi,hc,c9,c7,c2,ha,ha2,cb,List.set]
theorem h4f (all:List Node) (i k:Nat) (n:Node) (acc:List Int) (hall:all.length≤16) (hi:i < all.length) (hc:all[i]=n) (hs:acc.length=i)
   (cb : a2o n acc = true) (c2 : ltI 2 n.kind = true) (c3 : inR n.kind 3 9 = true) (a b : Nat) (ha : n.left = a) (ha2 : a < acc.length) (hb : n.right = b) (hb2 : b < acc.length) :
    B6 E (orc E) (296:Nat) (A5 E (orc E) (296:Nat) (k+1)) (B3 f296 0) ⟨62,[(0,nS 219 all),(4,.ref 4 1 [] 0 acc.length),(5,vI i)],[(4,⟨1,1,false,[.own 2 (iW acc)]⟩)],2⟩=
    some (.ret,⟨62,[(2,.v (.slice none 0 0)),(3,vB false)],[(4,⟨1,1,false,[.own 2 (iW acc)]⟩)],2⟩):=by
    have hlt:ltI (i:Int) (all.length:Int)=true:=C5 (by omega)
    have hw:IntKind.i64.wrap ((i:Int)+1)=((i+1:Nat):Int):=by rw [A6] <;> omega
    have hm1:acc.length+1≤B9:=by unfold B9; omega
    unfold a2o a7u at cb
    try unfold is4
    cases c9:orB (eqI n.kind 9) (eqI n.kind 10) <;> cases c7:leI 7 n.kind <;> rw [c9] at cb
    all_goals
      have e1:sAt acc (a:Int)=acc[a]:=by simp [sAt,ha2]
      have e2:sAt acc (b:Int)=acc[b]:=by simp [sAt,hb2]
      rw [ha,e1,hb,e2,c2,c3] at cb
      simp only [a8v,Bool.false_eq_true,if_false,if_true] at cb
      simp (maxSteps:=1000000) +contextual -dsimp [f296,a8t,hlt,hi,hc,c9,c7,c2,c3,ha,ha2,hb,hb2,cb,List.set]
def a4p (k n:Int):Bool:=if eqI k 1=true then leI 1 n else if orB (eqI k 3) (eqI k 4)=true then leI 2 n else if eqI k 8=true then eqI n 2 else eqI n 0
theorem b3y (k n:Int):fo 268 [A (vI k),A (vI n)]=some (R (vB (a4p k n))):=by
 refine h0b 1 ?_
 cases h5:eqI k 1
 ·cases h6:eqI k 3
  ·cases h8:eqI k 4
   ·cases h7:eqI k 8
    ·simp -dsimp [f268,h5,h6,h8,h7,a4p]
    ·simp -dsimp [f268,h5,h6,h8,h7,a4p]
   ·simp -dsimp [f268,h5,h6,h8,a4p]
  ·simp -dsimp [f268,h5,h6,a4p]
 ·simp -dsimp [f268,h5,a4p]
def B5 (at_:Int):Nat→List Step→List Int
 | _,[]=>[]
 | i,s::r=>if eqI s.parent at_=true then (i:Int)::B5 at_ (i+1) r else B5 at_ (i+1) r
theorem c5n (all:List Step) (hall:all.length≤1000) (at_:Int):∀ (rest:List Step) (i:Nat) (acc:List Int),all.drop i=rest→acc.length≤i→
  A5 E (orc E) (196:Nat) (rest.length+1) (B3 f196 0) ⟨26,[(0,.sl 124 (all.map (sT 219))),(1,vI at_),(5,.ref 5 1 [] 0 acc.length),(6,vI i)],[(5,⟨1,1,false,[.own 2 (iE acc)]⟩)],2⟩=
  some (.exit 0,⟨26,[(0,.sl 124 (all.map (sT 219))),(1,vI at_),(5,.ref 5 1 [] 0 (acc++B5 at_ i rest).length),(6,vI (i+rest.length:Nat)),(11,vB false)],[(5,⟨1,1,false,[.own 2 (iE (acc++B5 at_ i rest))]⟩)],2⟩)
 | [],i,acc,h,ha=>by
  have hge:all.length≤i:=by simpa using h
  have hlt:ltI (i:Int) (all.length:Int)=false:=B7 (by omega)
  rw [C2]
  simp +contextual -dsimp [f196,hlt,B5]
 | s::rest,i,acc,h,ha=>by
  obtain ⟨hi,hc,hr⟩:=C8 h
  have hlt:ltI (i:Int) (all.length:Int)=true:=C5 (by omega)
  have hw:IntKind.i64.wrap ((i:Int)+1)=((i+1:Nat):Int):=by rw [A6] <;> omega
  have he:i+1+rest.length=i+(rest.length+1):=by omega
  have hm1:acc.length+1≤B9:=by unfold B9; omega
  cases c:eqI s.parent at_
  ·have ih:=c5n all hall at_ rest (i+1) acc hr (by omega)
   rw [he] at ih
   have hm:B5 at_ i (s::rest)=B5 at_ (i+1) rest:=by simp [B5,c]
   rw [hm]
   refine C0 ?_ (by simpa only [List.length_cons] using ih)
   simp (maxSteps:=1000000) +contextual -dsimp [f196,hlt,hi,hc,hw,c]
  ·have ih:=c5n all hall at_ rest (i+1) (acc++[(i:Int)]) hr (by simp; omega)
   rw [he] at ih
   have hm:acc++B5 at_ i (s::rest)=acc++[(i:Int)]++B5 at_ (i+1) rest:=by simp [B5,c]
   rw [hm]
   refine C0 ?_ (by simpa only [List.length_cons] using ih)
   simp (maxSteps:=1000000) +contextual -dsimp [f196,hlt,hi,hc,hw,c,hm1,List.set]
theorem a8n (l:List Step) (hl:l.length≤1000) (at_:Int):fo 196 [A (.sl 124 (l.map (sT 219))),A (vI at_)]=some ⟨.own 2 (iE (B5 at_ 0 l)),[],true⟩:=by
 have hlp:=c5n l hl at_ l 0 [] rfl (by simp)
 have hc:H7 (iE (B5 at_ 0 l))=true:=by
  have:∀ (l:List Int),H7 (iE l)=true:=fun l=>by induction l <;> simp_all [H7,P1,clean]
  exact this _
 refine g8o (l.length+1) ?_
 simp -dsimp [f196] at hlp
 simp (maxSteps:=1000000) +contextual -dsimp [f196,hlp,hc]
def Ahead (l:List Step) (m:Nat):Prop:=∀ (k:Nat) (h:k < l.length),k < m→-1≤(l[k]).parent∧(l[k]).parent < k
def P2 (l:List Step) (p:Int):Nat→Int→Bool
 | 0,_=>false
 | f+1,at_=>if leI 0 at_=true then (if eqI at_ p=true then true else P2 l p f (parOf l at_.toNat)) else false
theorem f3u (l:List Step) (i:Nat) (hi:i < l.length) (ha:Ahead l i):∀ (f:Nat) (at_:Int),-1≤at_→at_ < f→at_ < i→
  A5 E (orc E) (263:Nat) (f+1) (B3 f263 0) ⟨22,[(0,.sl 124 (l.map (sT 219))),(1,vI i),(5,vI at_)],[],2⟩=
  (if P2 l (parOf l i) (f+1) at_=true then some (.ret,⟨22,[(4,vB true)],[],2⟩) else some (.exit 0,⟨22,[(0,.sl 124 (l.map (sT 219))),(1,vI i),(5,vI (-1)),(9,vB false)],[],2⟩))
 | 0,at_,h1,h2,h3=>by
  have e:at_=-1:=by omega
  subst e
  have hle:leI 0 (-1)=false:=rfl
  rw [C2]
  simp +contextual -dsimp [f263,hle,P2]
 | f+1,at_,h1,h2,h3=>by
  cases hle:leI 0 at_
  ·have e:at_=-1:=by simp [leI] at hle; omega
   subst e
   rw [C2]
   simp +contextual -dsimp [f263,hle,P2]
  ·obtain ⟨k,rfl⟩:=Int.eq_ofNat_of_zero_le (show 0≤at_ by simpa [leI] using hle)
   have hk:k < l.length:=by omega
   have hp:(l[i]).parent=parOf l i:=by simp [parOf,hi]
   have hpk:(l[k]).parent=parOf l k:=by simp [parOf,hk]
   obtain ⟨q1,q2⟩:=ha k hk (by omega)
   rw [hpk] at q1 q2
   cases c:eqI (k:Int) (parOf l i)
   ·have ih:=f3u l i hi ha f (parOf l k) q1 (by omega) (by omega)
    have hm:P2 l (parOf l i) (f+1+1) k=P2 l (parOf l i) (f+1) (parOf l k):=by simp [P2,hle,c]
    rw [hm]
    refine C0 ?_ ih
    simp (maxSteps:=1000000) +contextual -dsimp [f263,hle,hi,hk,hp,hpk,c]
   ·have hm:P2 l (parOf l i) (f+1+1) k=true:=by simp [P2,hle,c]
    rw [hm,if_pos rfl]
    refine D6 ?_ (by simp)
    simp (maxSteps:=1000000) +contextual -dsimp [f263,hle,hi,hp,c]
theorem g5h (l:List Step) (hl:l.length≤1000) (i:Nat) (hi:i < l.length) (ha:Ahead l i):fo 263 [A (.sl 124 (l.map (sT 219))),A (vI i)]=some (R (vB (P2 l (parOf l i) (i+1) ((i:Int) - 1)))):=by
 have hlp:=f3u l i hi ha i ((i:Int) - 1) (by omega) (by omega) (by omega)
 have hw:IntKind.i64.wrap ((i:Int) - 1)=(i:Int) - 1:=by rw [A6] <;> omega
 refine g9x (i+1) ?_
 simp -dsimp [f263] at hlp
 cases c:P2 l (parOf l i) (i+1) ((i:Int) - 1)
 ·simp (maxSteps:=1000000) +contextual -dsimp [f263,hlp,hw,c]
 ·simp (maxSteps:=1000000) +contextual -dsimp [f263,hlp,hw,c]
theorem f3v (s:ByteArray) (hs:s.size < 2 ^ 62):∀ (rest:List UInt8) (i:Nat),s.data.toList.drop i=rest→
  A5 E (orc E) (265:Nat) (rest.length+1) (B3 f265 0) ⟨25,[(0,vS s),(3,vI i)],[],2⟩=
  (if Q8 rest=true then some (.exit 0,⟨25,[(0,vS s),(3,vI (i+rest.length:Nat)),(7,vB false)],[],2⟩) else some (.ret,⟨25,[(2,vI 5)],[],2⟩))
 | [],i,h=>by
  have hge:s.size≤i:=by rw [← c1g]; exact List.drop_eq_nil_iff.1 h
  have hlt:ltI (i:Int) (s.size:Int)=false:=B7 (by omega)
  rw [C2]
  simp +contextual -dsimp [f265,hlt,Q8]
 | b::rest,i,h=>by
  obtain ⟨hi,hb,hr⟩:=e9k h
  have hlt:ltI (i:Int) (s.size:Int)=true:=C5 (by omega)
  have hw:IntKind.i64.wrap ((i:Int)+1)=((i+1:Nat):Int):=by rw [A6] <;> omega
  have hx:=f3i s i b (by omega) (by simpa using hb)
  have hin:inR b.toNat 97 122=A0 (orB (ltI b.toNat 97) (ltI 122 b.toNat)):=by
   simp only [inR,A2,orB,A0,leI,ltI,Bool.not_or]
   congr 1 <;> (rw [← decide_not]; congr 1; simp)
  cases c:orB (ltI b.toNat 97) (ltI 122 b.toNat)
  ·have hm:Q8 (b::rest)=Q8 rest:=by simp [Q8,hin,c,A0]
   have ih:=f3v s hs rest (i+1) hr
   have he:i+1+rest.length=i+(rest.length+1):=by omega
   rw [he] at ih
   rw [hm]
   refine C0 ?_ (by simpa only [List.length_cons] using ih)
   simp (maxSteps:=1000000) +contextual -dsimp [f265,hlt,hx,hw,c]
  ·have hm:Q8 (b::rest)=false:=by simp [Q8,hin,c,A0]
   rw [hm,if_neg (by simp)]
   refine D6 ?_ (by simp)
   simp (maxSteps:=1000000) +contextual -dsimp [f265,hlt,hx,c]
def a8y (s:ByteArray):Int:=if Q8 s.data.toList=true then (if eqS s emp=true then 5 else if ltI 8 s.size=true then 2 else 0) else 5
theorem g5i (s:ByteArray) (hs:s.size < 2 ^ 62):fo 265 [A (vS s)]=some (R (vI (a8y s))):=by
 have hlp:=f3v s hs s.data.toList 0 rfl
 refine g9z (s.data.toList.length+1) ?_
 simp -dsimp [f265] at hlp
 cases c:Q8 s.data.toList
 ·simp (maxSteps:=1000000) +contextual -dsimp [f265,hlp,c,a8y]
 ·simp (maxSteps:=1000000) +contextual -dsimp [f265,hlp,c,a8y]
def deepM (l:List Step):Nat→Int→Int
 | 0,_=>0
 | f+1,at_=>if leI 0 at_=true then 1+deepM l f (parOf l at_.toNat) else 0
theorem f3w (l:List Step) (i:Nat) (ha:Ahead l i):∀ (f:Nat) (at_ n:Int),-1≤at_→at_ < f→at_ < i→at_ < l.length→0≤n→n+at_ < 49→
  A5 E (orc E) (264:Nat) (f+1) (B3 f264 0) ⟨20,[(0,.sl 124 (l.map (sT 219))),(1,vI at_),(5,vI n)],[],2⟩=
  some (.exit 0,⟨20,[(0,.sl 124 (l.map (sT 219))),(1,vI (-1)),(5,vI (n+deepM l (f+1) at_)),(11,vB false)],[],2⟩)
 | 0,at_,n,h1,h2,h3,h4,h5,h6=>by
  have e:at_=-1:=by omega
  subst e
  have hle:leI 0 (-1)=false:=rfl
  rw [C2]
  simp +contextual -dsimp [f264,hle,deepM]
 | f+1,at_,n,h1,h2,h3,h4,h5,h6=>by
  cases hle:leI 0 at_
  ·have e:at_=-1:=by simp [leI] at hle; omega
   subst e
   rw [C2]
   simp +contextual -dsimp [f264,hle,deepM]
  ·obtain ⟨k,rfl⟩:=Int.eq_ofNat_of_zero_le (show 0≤at_ by simpa [leI] using hle)
   have hk:k < l.length:=by omega
   have hpk:(l[k]).parent=parOf l k:=by simp [parOf,hk]
   obtain ⟨q1,q2⟩:=ha k hk (by omega)
   rw [hpk] at q1 q2
   have hlt:ltI n 50=true:=C5 (by omega)
   have hw:IntKind.i64.wrap (n+1)=n+1:=by rw [A6] <;> omega
   have ih:=f3w l i ha f (parOf l k) (n+1) q1 (by omega) (by omega) (by omega) (by omega) (by omega)
   have hm:n+deepM l (f+1+1) k=n+1+deepM l (f+1) (parOf l k):=by
    rw [show deepM l (f+1+1) (k:Int)=1+deepM l (f+1) (parOf l k) from by rw [deepM,if_pos hle]; simp]
    omega
   rw [hm]
   refine C0 ?_ ih
   simp (maxSteps:=1000000) +contextual -dsimp [f264,hle,hlt,hk,hpk,hw]
theorem g5j (l:List Step) (hl:l.length≤24) (i:Nat) (hi:i < l.length) (ha:Ahead l (i+1)):fo 264 [A (.sl 124 (l.map (sT 219))),A (vI i)]=some (R (vI (deepM l (i+2) i))):=by
 have hlp:=f3w l (i+1) ha (i+1) (i:Int) 0 (by omega) (by omega) (by omega) (by omega) (by omega) (by omega)
 refine g9y (i+2) ?_
 simp -dsimp [f264] at hlp
 simp (maxSteps:=1000000) +contextual -dsimp [f264,hlp]
def a6o (l:List Step) (at_:Nat):Bool:=
 if orB (ltI (parOf l at_) 0) (A0 (eqI (A8 l (parOf l at_)) 3))=true then false
 else A0 (eqI (A3 (B5 (parOf l at_) 0 l) ((B5 (parOf l at_) 0 l).length - 1)) at_)
theorem d3j {p:Int}:∀ {l:List Step} {i k:Nat} {s:Step},l[k]?=some s→s.parent=p→((i+k:Nat):Int)∈B5 p i l
 | [],i,k,s,h,_=>by simp at h
 | x::l,i,0,s,h,hp=>by
  simp at h; subst h
  simp [B5,eqI,hp]
 | x::l,i,k+1,s,h,hp=>by
  have:=d3j (i:=i+1) (k:=k) (by simpa using h) hp
  have e:i+1+k=i+(k+1):=by omega
  rw [e] at this
  unfold B5
  split
  ·exact List.mem_cons_of_mem _ this
  ·exact this
theorem g1y (l:List Step) (hl:l.length≤1000) (at_:Nat) (ha:at_ < l.length) (hp:parOf l at_ < l.length):
  fo 269 [A (.sl 124 (l.map (sT 219))),A (vI at_)]=some (R (vB (a6o l at_))):=by
 have hpar:(l[at_]).parent=parOf l at_:=by simp [parOf,ha]
 refine h0c 1 ?_
 cases c1:ltI (parOf l at_) 0
 ·have p1:0≤parOf l at_:=by simp [ltI] at c1; omega
  obtain ⟨k,hk⟩:=Int.eq_ofNat_of_zero_le p1
  have hk2:k < l.length:=by omega
  have hkind:(l[k]).kind=A8 l (k:Int):=by simp [A8,hk2]
  rw [hk] at hpar c1
  cases c2:eqI (A8 l (k:Int)) 3
  ·simp (maxSteps:=1000000) +contextual -dsimp [f269,ha,hpar,hk,hk2,hkind,c1,c2,a6o]
  ·have g:=a8n l hl (k:Int)
   have hm:((0+at_:Nat):Int)∈B5 (k:Int) 0 l:=d3j (k:=at_) (s:=l[at_]) (by simp [ha]) hpar
   have hpos:0 < (B5 (k:Int) 0 l).length:=List.length_pos_of_mem hm
   have hkl:(B5 (k:Int) 0 l).length≤1000:=by
    have:∀ (l:List Step) (i:Nat),(B5 (k:Int) i l).length≤l.length:=fun l=>by
     induction l with
     | nil=>intro i; simp [B5]
     | cons s l ih=>intro i; unfold B5; split <;> simp <;> have:=ih (i+1) <;> omega
    have:=this l 0; omega
   have hw:IntKind.i64.wrap (((B5 (k:Int) 0 l).length:Int) - 1)=(((B5 (k:Int) 0 l).length - 1:Nat):Int):=by rw [A6] <;> omega
   have hlt:(B5 (k:Int) 0 l).length - 1 < (B5 (k:Int) 0 l).length:=by omega
   have e1:A3 (B5 (k:Int) 0 l) (((B5 (k:Int) 0 l).length:Int) - 1)=(B5 (k:Int) 0 l)[(B5 (k:Int) 0 l).length - 1]:=by
    have:(((B5 (k:Int) 0 l).length:Int) - 1).toNat=(B5 (k:Int) 0 l).length - 1:=by omega
    simp [A3,this,hlt]
   have hse:L6 (iE (B5 (k:Int) 0 l))=iE (B5 (k:Int) 0 l):=a4y (f:=fun n=>[vI n]) (g:=fun n=>[vI n]) (fun a=>by simp [O5,L9]) _
   simp (maxSteps:=1000000) +contextual -dsimp [f269,ha,hpar,hk,hk2,hkind,c1,c2,g,hse,hw,hlt,e1,a6o]
 ·simp (maxSteps:=1000000) +contextual -dsimp [f269,ha,hpar,c1,a6o]
theorem f3x (all:List Node) (hall:all.length≤16):∀ (rest:List Node) (i:Nat) (acc:List Int),all.drop i=rest→acc.length=i→
    (∀ (k:Nat) (n:Node),rest[k]?=some n→(ltI 2 n.kind=true→0≤n.left∧n.left < (i+k:Nat))∧(inR n.kind 3 9=true→0≤n.right∧n.right < (i+k:Nat)))→
    A5 E (orc E) (296:Nat) (rest.length+1) (B3 f296 0) ⟨62,[(0,nS 219 all),(4,.ref 4 1 [] 0 acc.length),(5,vI i)],[(4,⟨1,1,false,[.own 2 (iW acc)]⟩)],2⟩=
    (if (L5 rest acc).1 = true then some (.exit 0, ⟨62, [(0, nS 219 all), (4, .ref 4 1 [] 0 (L5 rest acc).2.length), (5, vI (i + rest.length : Nat)), (13, vB false)], [(4, ⟨1, 1, false, [.own 2 (iW (L5 rest acc).2)]⟩)], 2⟩)
     else some (.ret,⟨62,[(2,.v (.slice none 0 0)),(3,vB false)],[(4,⟨1,1,false,[.own 2 (iW (L5 rest acc).2)]⟩)],2⟩))
  | [],i,acc,h,hs,ho=>by
    have hge:all.length≤i:=by simpa using h
    have hlt:ltI (i:Int) (all.length:Int)=false:=B7 (by omega)
    rw [C2]
    simp +contextual -dsimp [f296,hlt,L5]
  | n::rest,i,acc,h,hs,ho=>by
    obtain ⟨hi,hc,hr⟩:=C8 h
    have he:i+1+rest.length=i+(rest.length+1):=by omega
    have ih:=f3x all hall rest (i+1) (acc++[is4 n.kind]) hr (by simp; omega) (fun k m hk=>by
      have:=ho (k+1) m (by simpa using hk)
      have e:i+1+k=i+(k+1):=by omega
      rw [e]; exact this)
    rw [he] at ih
    obtain ⟨o1,o2⟩:=ho 0 n (by simp)
    have z:ltI 2 n.kind=false∧inR n.kind 3 9=false∨ltI 2 n.kind=true∧inR n.kind 3 9=false∨ltI 2 n.kind=true∧inR n.kind 3 9=true:=by
      cases c2:ltI 2 n.kind
      · left
        refine ⟨rfl,?_⟩
        simp [ltI,inR,A2,leI] at c2 ⊢; omega
      · right
        cases c3:inR n.kind 3 9 <;> simp
    cases cb:a2o n acc
    · have hm : L5 (n :: rest) acc = L5 rest (acc ++ [is4 n.kind]) := by simp [L5, cb]
      rw [hm]
      refine C0 ?_ (by simpa only [List.length_cons] using ih)
      rcases z with ⟨c2,c3⟩ | ⟨c2,c3⟩ | ⟨c2,c3⟩
      · exact h4b all i _ n acc hall hi hc hs cb c2 c3
      · obtain ⟨p1, p2⟩ := o1 c2
        obtain ⟨a,ha⟩:=Int.eq_ofNat_of_zero_le p1
        exact h4c all i _ n acc hall hi hc hs cb c2 c3 a ha (by omega)
      · obtain ⟨p1, p2⟩ := o1 c2
        obtain ⟨a,ha⟩:=Int.eq_ofNat_of_zero_le p1
        obtain ⟨p3,p4⟩:=o2 c3
        obtain ⟨b,hb⟩:=Int.eq_ofNat_of_zero_le p3
        exact h4d all i _ n acc hall hi hc hs cb c2 c3 a b ha (by omega) hb (by omega)
    · have hm : L5 (n :: rest) acc = (false, acc) := by simp [L5, cb]
      rw [hm,if_neg (by simp)]
      refine D6 ?_ (by simp)
      rcases z with ⟨c2,c3⟩ | ⟨c2,c3⟩ | ⟨c2,c3⟩
      · unfold a2o at cb
        rw [c2,c3] at cb
        simp [orB,A2] at cb
      · obtain ⟨p1, p2⟩ := o1 c2
        obtain ⟨a,ha⟩:=Int.eq_ofNat_of_zero_le p1
        exact h4e all i _ n acc hall hi hc hs cb c2 c3 a ha (by omega)
      · obtain ⟨p1, p2⟩ := o1 c2
        obtain ⟨a,ha⟩:=Int.eq_ofNat_of_zero_le p1
        obtain ⟨p3,p4⟩:=o2 c3
        obtain ⟨b,hb⟩:=Int.eq_ofNat_of_zero_le p3
        exact h4f all i _ n acc hall hi hc hs cb c2 c3 a b ha (by omega) hb (by omega)
def RTy (l:List Node):Res:=if (L5 l []).1=true then ⟨.tup [.own 2 (iW (L5 l []).2),vB true],[],true⟩ else ⟨.tup [.own 2 [],vB false],[],true⟩
theorem g1z (l:List Node) (hl:l.length≤16) (hg:a4t l):fo 296 [A (nS 219 l)]=some (RTy l):=by
 have hlp:=f3x l hl l 0 [] rfl rfl (fun k n hk=>by
  have hk2:k < l.length:=(List.getElem?_eq_some_iff.1 hk).1
  have he:=(List.getElem?_eq_some_iff.1 hk).2
  have:=hg k hk2
  rw [he] at this
  simpa using this)
 refine h0t (l.length+1) ?_
 simp -dsimp [f296] at hlp
 unfold RTy
 cases c:(L5 l []).1
 ·rw [c] at hlp
  simp (maxSteps:=1000000) +contextual -dsimp [f296,hlp,List.set]
 ·rw [c] at hlp
  have hc:=b3x (L5 l []).2
  simp (maxSteps:=1000000) +contextual -dsimp [f296,hlp,hc,List.set]
theorem d1c:∀ (l:List Node) (acc:List Int),(L5 l acc).1=true→(L5 l acc).2.length=acc.length+l.length
 | [],acc,_=>by simp [L5]
 | n::l,acc,h=>by
  unfold L5 at h ⊢
  split at h
  ·simp at h
  ·rename_i hc
   rw [if_neg hc]
   rw [d1c l _ h]; simp; omega
theorem f9o {l:List Node} (h:P9 l=0):1≤l.length∧l.length≤16∧a0d 0 l=0:=by
 unfold P9 at h
 split at h
 ·simp at h
 ·rename_i c1
  split at h
  ·rename_i c2; rw [h] at c2; simp [A0,eqI] at c2
  ·rename_i c2
   simp [orB,ltI] at c1
   simp [A0,eqI] at c2
   omega
theorem f8o {l:List Node} (h0:a0d 0 l=0):a4t l:=fun k hk=>by
 have hz:=c1l h0 k l[k] (by simp [hk])
 rw [Nat.zero_add] at hz
 exact d3h hz
def a4l (l:List Node):Int × Int:=
 if A0 (eqI (P9 l) 0)=true then (0,P9 l)
 else if (L5 l []).1=true then (A3 (L5 l []).2 (l.length - 1),0) else (0,7)
theorem g5k (l:List Node) (hl:l.length < 2 ^ 62):fo 270 [A (nS 219 l)]=some (R2 (vI (a4l l).1) (vI (a4l l).2)):=by
 have g:=c1m l hl
 refine h0d 1 ?_
 cases c1:eqI (P9 l) 0
 ·simp (maxSteps:=1000000) +contextual -dsimp [f270,g,c1,a4l]
 ·have e0:P9 l=0:=by simpa [eqI] using c1
  obtain ⟨h1,h2,h3⟩:=f9o e0
  have g2:=g1z l h2 (f8o h3)
  unfold RTy at g2
  cases c2:(L5 l []).1
  ·rw [c2] at g2
   simp only [Bool.false_eq_true,if_false] at g2
   simp (maxSteps:=1000000) +contextual -dsimp [f270,g,e0,c2,g2,a4l,C1]
  ·rw [c2] at g2
   simp only [if_true] at g2
   have hlen:=d1c l [] c2
   simp at hlen
   have hlt:l.length - 1 < (L5 l []).2.length:=by omega
   have hlt2:l.length - 1 < l.length:=by omega
   have hw:IntKind.i64.wrap ((l.length:Int) - 1)=((l.length - 1:Nat):Int):=by rw [A6] <;> omega
   have e1:A3 (L5 l []).2 ((l.length:Int) - 1)=(L5 l []).2[l.length - 1]:=by
    have:((l.length:Int) - 1).toNat=l.length - 1:=by omega
    simp [A3,this,hlt]
   simp (maxSteps:=1000000) +contextual -dsimp [f270,g,e0,c2,g2,hlen,hw,hlt2,e1,a4l,C1,d3i]
def a2v (l:List Node) (want:Int):Int:=
 if eqI l.length 0=true then 0
 else if A0 (eqI (a4l l).2 0)=true then (a4l l).2
 else if A0 (eqI (a4l l).1 want)=true then 7 else 0
theorem d3k (l:List Node) (hl:l.length < 2 ^ 62) (want:Int):fo 224 [A (nS 219 l),A (vI want)]=some (R (vI (a2v l want))):=by
 have g:=g5k l hl
 refine g8v 1 ?_
 cases c1:eqI l.length 0
 ·cases c2:eqI (a4l l).2 0
  ·simp (maxSteps:=1000000) +contextual -dsimp [f224,g,c1,c2,a2v]
  ·cases c3:eqI (a4l l).1 want
   ·simp (maxSteps:=1000000) +contextual -dsimp [f224,g,c1,c2,c3,a2v]
   ·simp (maxSteps:=1000000) +contextual -dsimp [f224,g,c1,c2,c3,a2v]
 ·simp (maxSteps:=1000000) +contextual -dsimp [f224,c1,a2v]
def a7v (s:Step):Bool:=A2 (A2 (orB (eqI s.kind 2) (eqS s.name emp)) (orB (inR s.kind 5 8) (eqI s.arg 0))) (orB (eqI s.kind 7) (eqI s.expr.length 0))
theorem b1x (s:Step):fo 262 [A (.ipt (sT 219 s))]=some (R (vB (a7v s))):=g3v s
def a1n (s:Step) (i:Nat):Bool:=orB (A2 (eqI (i:Int) 0) (A0 (eqI s.parent (-1)))) (A2 (ltI 0 (i:Int)) (A0 (inR s.parent 0 ((i:Int) - 1))))
def a9i (l:List Step) (i:Nat):Bool:=P2 l (parOf l i) (i+1) ((i:Int) - 1)
def a7w (l:List Step) (i:Nat):Int:=deepM l (i+2) i
theorem h1o (l:List Step) (hl:l.length≤1000) (i:Nat) (hi:i < l.length) (ha:Ahead l i):fo 263 [A (.sl 124 (l.map (sT 219))),A (vI i)]=some (R (vB (a9i l i))):=g5h l hl i hi ha
theorem c4u (l:List Step) (hl:l.length≤24) (i:Nat) (hi:i < l.length) (ha:Ahead l (i+1)):fo 264 [A (.sl 124 (l.map (sT 219))),A (vI i)]=some (R (vI (a7w l i))):=g5j l hl i hi ha
def a6r (s:Step):Int:=
 if A0 (U7 s.kind s.arg)=true then 3 else if eqI s.kind 7=true then P9 s.expr else 0
def one4M (l:List Step) (i:Nat) (s:Step):Int:=
 if orB (A0 (inR s.kind 1 8)) (A0 (a7v s))=true then 1
 else if a1n s i=true then 3
 else if A2 (ltI 0 (i:Int)) (A0 (a9i l i))=true then 1
 else if ltI 7 (a7w l i)=true then 2
 else if eqI s.kind 2=true then (if A0 (eqI (a8y s.name) 0)=true then a8y s.name else a6r s)
 else a6r s
theorem c4v {s:Step} {i:Nat} (h:a1n s i=false):-1≤s.parent∧s.parent < i:=by
 unfold a1n at h
 simp only [orB,A2,A0,inR,leI,ltI,eqI,Bool.or_eq_false_iff,Bool.and_eq_false_iff,Bool.not_eq_false',decide_eq_true_eq,decide_eq_false_iff_not,beq_eq_false_iff_ne,beq_iff_eq,Bool.and_eq_true] at h
 omega
theorem h1p (l:List Step) (hl:l.length≤24) (i:Nat) (hi:i < l.length) (ha:Ahead l i) (hn:(l[i]).name.size < 2 ^ 62) (hx:(l[i]).expr.length < 2 ^ 62):
  fo 222 [A (.sl 124 (l.map (sT 219))),A (vI i)]=some (R (vI (one4M l i l[i]))):=by
 have hw:IntKind.i64.wrap ((i:Int) - 1)=(i:Int) - 1:=by rw [A6] <;> omega
 have g1:=h1o l (by omega) i hi ha
 have g3:=g5i (l[i]).name hn
 have g4:=c1m (l[i]).expr hx
 refine g8t 1 ?_
 cases c1:orB (A0 (inR (l[i]).kind 1 8)) (A0 (a7v (l[i])))
 ·cases c2:a1n (l[i]) i
  ·have ha2:Ahead l (i+1):=fun k hk hk2=>by
    by_cases e:k=i
    ·subst e; exact c4v c2
    ·exact ha k hk (by omega)
   have g2:=c4u l hl i hi ha2
   have d2:=c2
   unfold a1n at d2
   cases c3:A2 (ltI 0 (i:Int)) (A0 (a9i l i))
   ·cases c4:ltI 7 (a7w l i)
    ·cases c5:eqI (l[i]).kind 2
     ·cases c6:U7 (l[i]).kind (l[i]).arg <;> cases c7:eqI (l[i]).kind 7
      all_goals simp (maxSteps:=1000000) +contextual -dsimp [f222,G0,b1x,e9j,hi,hw,g1,g2,g4,c1,c2,d2,c3,c4,c5,c6,c7,one4M,a6r]
     ·have c7:eqI (l[i]).kind 7=false:=by simp [eqI] at c5 ⊢; omega
      cases c8:eqI (a8y (l[i]).name) 0 <;> cases c6:U7 (l[i]).kind (l[i]).arg
      all_goals simp (maxSteps:=1000000) +contextual -dsimp [f222,G0,b1x,e9j,hi,hw,g1,g2,g3,c1,c2,d2,c3,c4,c5,c6,c7,c8,one4M,a6r]
    ·simp (maxSteps:=1000000) +contextual -dsimp [f222,G0,b1x,hi,hw,g1,g2,c1,c2,d2,c3,c4,one4M]
   ·simp (maxSteps:=1000000) +contextual -dsimp [f222,G0,b1x,hi,hw,g1,c1,c2,d2,c3,one4M]
  ·have d2:=c2
   unfold a1n at d2
   simp (maxSteps:=1000000) +contextual -dsimp [f222,G0,b1x,hi,hw,c1,c2,d2,one4M]
 ·simp (maxSteps:=1000000) +contextual -dsimp [f222,G0,b1x,hi,c1,one4M]
theorem a1r (l:List Int):L6 (iE l)=iE l:=a4y (f:=fun n=>[vI n]) (g:=fun n=>[vI n]) (fun a=>by simp [O5,L9]) _
def kidsN (l:List Step) (i:Int):Int:=(B5 i 0 l).length
def a8o (l:List Step) (i:Nat) (s:Step):Int:=
 if A0 (a4p s.kind (kidsN l i))=true then 1
 else if A0 (eqB (a6o l i) (ltI 0 s.cond.length))=true then 1
 else if ltI 0 s.cond.length=true then P9 s.cond else 0
def a1i (l:List Step):Nat→List Step→Int
 | _,[]=>0
 | i,s::r=>if eqI (a8o l i s) 0=true then a1i l (i+1) r else a8o l i s
theorem f3y (all:List Step) (hall:all.length≤24) (hp:∀ k,k < all.length→parOf all k < all.length) (hx:∀ s,s∈all→s.cond.length < 2 ^ 62):∀ (rest:List Step) (i:Nat),all.drop i=rest→
  A5 E (orc E) (223:Nat) (rest.length+1) (B3 f223 0) ⟨49,[(0,.sl 124 (all.map (sT 219))),(3,vI i)],[],2⟩=
  (if eqI (a1i all i rest) 0=true then some (.exit 0,⟨49,[(0,.sl 124 (all.map (sT 219))),(3,vI (i+rest.length:Nat)),(8,vB false)],[],2⟩) else some (.ret,⟨49,[(2,vI (a1i all i rest))],[],2⟩))
 | [],i,h=>by
  have hge:all.length≤i:=by simpa using h
  have hlt:ltI (i:Int) (all.length:Int)=false:=B7 (by omega)
  rw [C2]
  simp +contextual -dsimp [f223,hlt,a1i,eqI]
 | s::rest,i,h=>by
  obtain ⟨hi,hc,hr⟩:=C8 h
  have hlt:ltI (i:Int) (all.length:Int)=true:=C5 (by omega)
  have hw:IntKind.i64.wrap ((i:Int)+1)=((i+1:Nat):Int):=by rw [A6] <;> omega
  have he:i+1+rest.length=i+(rest.length+1):=by omega
  have g1:=a8n all (by omega) i
  have g2:=g1y all (by omega) i hi (hp i hi)
  have g3:=c1m s.cond (hx s (by rw [← hc]; exact List.getElem_mem _))
  have hs:=a1r (B5 (i:Int) 0 all)
  cases c:eqI (a8o all i s) 0
  ·have hm:a1i all i (s::rest)=a8o all i s:=by simp [a1i,c]
   rw [hm,c,if_neg (by simp)]
   refine D6 ?_ (by simp)
   unfold a8o kidsN at c ⊢
   cases c1:a4p s.kind (B5 (i:Int) 0 all).length
   ·simp (maxSteps:=1000000) +contextual -dsimp [f223,b3y,hlt,hi,hc,g1,hs,c1]
   ·cases c2:eqB (a6o all i) (ltI 0 s.cond.length)
    ·simp (maxSteps:=1000000) +contextual -dsimp [f223,b3y,hlt,hi,hc,g1,hs,g2,c1,c2]
    ·cases c3:ltI 0 s.cond.length
     ·rw [c1,c2,c3] at c; simp [A0,eqI] at c
     ·have c2':=c2
      rw [c3] at c2'
      cases c4:eqI (P9 s.cond) 0
      ·simp (maxSteps:=1000000) +contextual -dsimp [f223,b3y,hlt,hi,hc,g1,hs,g2,g3,c1,c2',c3,c4]
      ·rw [c1,c2,c3] at c; simp [A0,c4] at c
  ·have ih:=f3y all hall hp hx rest (i+1) hr
   rw [he] at ih
   have hm:a1i all i (s::rest)=a1i all (i+1) rest:=by simp [a1i,c]
   rw [hm]
   refine C0 ?_ (by simpa only [List.length_cons] using ih)
   unfold a8o kidsN at c
   cases c1:a4p s.kind (B5 (i:Int) 0 all).length
   ·rw [c1] at c; simp [A0,eqI] at c
   ·cases c2:eqB (a6o all i) (ltI 0 s.cond.length)
    ·rw [c1,c2] at c; simp [A0,eqI] at c
    ·cases c3:ltI 0 s.cond.length
     ·have c2':=c2
      rw [c3] at c2'
      simp (maxSteps:=1000000) +contextual -dsimp [f223,b3y,hlt,hi,hc,hw,g1,hs,g2,c1,c2',c3]
     ·have c2':=c2
      rw [c3] at c2'
      cases c4:eqI (P9 s.cond) 0
      ·rw [c1,c2,c3] at c; simp [A0,c4] at c
      ·simp (maxSteps:=1000000) +contextual -dsimp [f223,b3y,hlt,hi,hc,hw,g1,hs,g2,g3,c1,c2',c3,c4]
theorem g2a (l:List Step) (hl:l.length≤24) (hp:∀ k,k < l.length→parOf l k < l.length) (hx:∀ s,s∈l→s.cond.length < 2 ^ 62):
  fo 223 [A (.sl 124 (l.map (sT 219)))]=some (R (vI (a1i l 0 l))):=by
 have hlp:=f3y l hl hp hx l 0 rfl
 refine g8u (l.length+1) ?_
 simp -dsimp [f223] at hlp
 cases c:eqI (a1i l 0 l) 0
 ·rw [c] at hlp
  simp (maxSteps:=1000000) +contextual -dsimp [f223,hlp]
 ·rw [c] at hlp
  have c':a1i l 0 l=0:=by simpa [eqI] using c
  simp (maxSteps:=1000000) +contextual -dsimp [f223,c',hlp]
end Go.TM.Ft
