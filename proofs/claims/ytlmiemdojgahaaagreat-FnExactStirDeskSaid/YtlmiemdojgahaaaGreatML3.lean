/- What functions of the program come to, by the machine. -/
import Derived.Test.YtlmiemdojgahaaaGreatML2
set_option linter.unusedSimpArgs false
set_option linter.unusedVariables false
set_option maxHeartbeats 4000000
namespace Go.TM.Ft
open Go Go.TM Go.Proofs Go.Proofs.Tryz
set_option maxRecDepth 20000
attribute [local congr] O3
attribute [local simp] L9 M4 K0 L6 J6 L4 J8 J1 K5 I6
def oI (k:Int):Int:=if A7 (A0 k 9) (A0 k 10)=true then 2 else 1
def dP (k:Int):Int:=if B5 7 k=true then 2 else 1
def fT (types:List Int) (k:Int):Int:=types.getD k.toNat 0
def eU (n:Node) (types:List Int):Bool:=
 A7 (A6 (A3 2 n.kind) (A2 (A0 (fT types n.left) (oI n.kind)))) (A6 (A5 n.kind 3 9) (A2 (A0 (fT types n.right) (oI n.kind))))
def S4:List Node→List Int→Bool×List Int
 | [],acc=>(true,acc)
 | n::r,acc=>if eU n acc=true then (false,acc) else S4 r (acc++[dP n.kind])
theorem d1l (all:List Node) (i k:Nat) (n:Node) (acc:List Int) (B9:all.length≤16) (hi:i<all.length) (hc:all[i]=n) (hs:acc.length=i)
   (cb : eU n acc = false) (c2 : A3 2 n.kind = false) (c3 : A5 n.kind 3 9 = false) :
    D3 E (orc E) (296:Nat) (B7 E (orc E) (296:Nat) (k+1)) (C1 f296 0) ⟨62,[(0,nS 219 all),(4,.ref 4 1 [] 0 acc.length),(5,vI i)],[(4,⟨1,1,false,[.own 2 (iW acc)]⟩)],2⟩=
    some (.normal,⟨62,[(0,nS 219 all),(4,.ref 4 1 [] 0 (acc++[dP n.kind]).length),(5,vI (i+1:Nat))],[(4,⟨1,1,false,[.own 2 (iW (acc++[dP n.kind]))]⟩)],2⟩):=by
    have _:=cb
    have A1:A3 (i:Int) (all.length:Int)=true:=F5 (by omega)
    have hw:IntKind.i64.wrap ((i:Int)+1)=((i+1:Nat):Int):=by rw[B6]<;>omega
    have H9:acc.length+1≤D0:=by unfold D0;omega
    unfold eU oI at cb
    try unfold dP
    cases c9:A7 (A0 n.kind 9) (A0 n.kind 10)<;>cases c7:B5 7 n.kind<;>rw[c9] at cb
    all_goals
      simp (maxSteps:=1000000) +contextual -dsimp [f296,pQ,A1,hi,hc,hw,H9,c9,c7,c2,c3,List.set]
theorem d7o (all:List Node) (i k:Nat) (n:Node) (acc:List Int) (B9:all.length≤16) (hi:i<all.length) (hc:all[i]=n) (hs:acc.length=i)
   (cb : eU n acc = false) (c2 : A3 2 n.kind = true) (c3 : A5 n.kind 3 9 = false) (a : Nat) (ha : n.left = a) (X8 : a < acc.length) :
    D3 E (orc E) (296:Nat) (B7 E (orc E) (296:Nat) (k+1)) (C1 f296 0) ⟨62,[(0,nS 219 all),(4,.ref 4 1 [] 0 acc.length),(5,vI i)],[(4,⟨1,1,false,[.own 2 (iW acc)]⟩)],2⟩=
    some (.normal,⟨62,[(0,nS 219 all),(4,.ref 4 1 [] 0 (acc++[dP n.kind]).length),(5,vI (i+1:Nat))],[(4,⟨1,1,false,[.own 2 (iW (acc++[dP n.kind]))]⟩)],2⟩):=by
    have A1:A3 (i:Int) (all.length:Int)=true:=F5 (by omega)
    have hw:IntKind.i64.wrap ((i:Int)+1)=((i+1:Nat):Int):=by rw[B6]<;>omega
    have H9:acc.length+1≤D0:=by unfold D0;omega
    unfold eU oI at cb
    try unfold dP
    cases c9:A7 (A0 n.kind 9) (A0 n.kind 10)<;>cases c7:B5 7 n.kind<;>rw[c9] at cb
    all_goals
      have e1:fT acc (a:Int)=acc[a]:=by simp[fT,X8]
      rw[ha,e1,c2,c3] at cb
      simp only[rJ,yG,Ay,Bool.false_eq_true,if_false,if_true] at cb
      simp (maxSteps:=1000000) +contextual -dsimp [f296,pQ,A1,hi,hc,hw,H9,c9,c7,c2,c3,ha,X8,cb,List.set]
theorem d5v (all:List Node) (i k:Nat) (n:Node) (acc:List Int) (B9:all.length≤16) (hi:i<all.length) (hc:all[i]=n) (hs:acc.length=i)
   (cb : eU n acc = false) (c2 : A3 2 n.kind = true) (c3 : A5 n.kind 3 9 = true) (a b : Nat) (ha : n.left = a) (X8 : a < acc.length) (hb : n.right = b) (T9 : b < acc.length) :
    D3 E (orc E) (296:Nat) (B7 E (orc E) (296:Nat) (k+1)) (C1 f296 0) ⟨62,[(0,nS 219 all),(4,.ref 4 1 [] 0 acc.length),(5,vI i)],[(4,⟨1,1,false,[.own 2 (iW acc)]⟩)],2⟩=
    some (.normal,⟨62,[(0,nS 219 all),(4,.ref 4 1 [] 0 (acc++[dP n.kind]).length),(5,vI (i+1:Nat))],[(4,⟨1,1,false,[.own 2 (iW (acc++[dP n.kind]))]⟩)],2⟩):=by
    have A1:A3 (i:Int) (all.length:Int)=true:=F5 (by omega)
    have hw:IntKind.i64.wrap ((i:Int)+1)=((i+1:Nat):Int):=by rw[B6]<;>omega
    have H9:acc.length+1≤D0:=by unfold D0;omega
    unfold eU oI at cb
    try unfold dP
    cases c9:A7 (A0 n.kind 9) (A0 n.kind 10)<;>cases c7:B5 7 n.kind<;>rw[c9] at cb
    all_goals
      have e1:fT acc (a:Int)=acc[a]:=by simp[fT,X8]
      have e2:fT acc (b:Int)=acc[b]:=by simp[fT,T9]
      rw[ha,e1,hb,e2,c2,c3] at cb
      simp only[rJ,Bool.false_eq_true,if_false,if_true] at cb
      simp (maxSteps:=1000000) +contextual -dsimp [f296,pQ,A1,hi,hc,hw,H9,c9,c7,c2,c3,ha,X8,hb,T9,cb,List.set]
theorem d7u (all:List Node) (i k:Nat) (n:Node) (acc:List Int) (B9:all.length≤16) (hi:i<all.length) (hc:all[i]=n) (hs:acc.length=i)
   (cb : eU n acc = true) (c2 : A3 2 n.kind = true) (c3 : A5 n.kind 3 9 = false) (a : Nat) (ha : n.left = a) (X8 : a < acc.length) :
    D3 E (orc E) (296:Nat) (B7 E (orc E) (296:Nat) (k+1)) (C1 f296 0) ⟨62,[(0,nS 219 all),(4,.ref 4 1 [] 0 acc.length),(5,vI i)],[(4,⟨1,1,false,[.own 2 (iW acc)]⟩)],2⟩=
    some (.ret,⟨62,[(2,.v (.slice none 0 0)),(3,vB false)],[(4,⟨1,1,false,[.own 2 (iW acc)]⟩)],2⟩):=by
    have A1:A3 (i:Int) (all.length:Int)=true:=F5 (by omega)
    have hw:IntKind.i64.wrap ((i:Int)+1)=((i+1:Nat):Int):=by rw[B6]<;>omega
    have H9:acc.length+1≤D0:=by unfold D0;omega
    unfold eU oI at cb
    try unfold dP
    cases c9:A7 (A0 n.kind 9) (A0 n.kind 10)<;>cases c7:B5 7 n.kind<;>rw[c9] at cb
    all_goals
      have e1:fT acc (a:Int)=acc[a]:=by simp[fT,X8]
      rw[ha,e1,c2,c3] at cb
      simp only[rJ,yG,Ay,Bool.false_eq_true,if_false,if_true] at cb
      simp (maxSteps:=1000000) +contextual -dsimp [f296,A1,hi,hc,c9,c7,c2,ha,X8,cb,List.set]
theorem d5y (all:List Node) (i k:Nat) (n:Node) (acc:List Int) (B9:all.length≤16) (hi:i<all.length) (hc:all[i]=n) (hs:acc.length=i)
   (cb : eU n acc = true) (c2 : A3 2 n.kind = true) (c3 : A5 n.kind 3 9 = true) (a b : Nat) (ha : n.left = a) (X8 : a < acc.length) (hb : n.right = b) (T9 : b < acc.length) :
    D3 E (orc E) (296:Nat) (B7 E (orc E) (296:Nat) (k+1)) (C1 f296 0) ⟨62,[(0,nS 219 all),(4,.ref 4 1 [] 0 acc.length),(5,vI i)],[(4,⟨1,1,false,[.own 2 (iW acc)]⟩)],2⟩=
    some (.ret,⟨62,[(2,.v (.slice none 0 0)),(3,vB false)],[(4,⟨1,1,false,[.own 2 (iW acc)]⟩)],2⟩):=by
    have A1:A3 (i:Int) (all.length:Int)=true:=F5 (by omega)
    have hw:IntKind.i64.wrap ((i:Int)+1)=((i+1:Nat):Int):=by rw[B6]<;>omega
    have H9:acc.length+1≤D0:=by unfold D0;omega
    unfold eU oI at cb
    try unfold dP
    cases c9:A7 (A0 n.kind 9) (A0 n.kind 10)<;>cases c7:B5 7 n.kind<;>rw[c9] at cb
    all_goals
      have e1:fT acc (a:Int)=acc[a]:=by simp[fT,X8]
      have e2:fT acc (b:Int)=acc[b]:=by simp[fT,T9]
      rw[ha,e1,hb,e2,c2,c3] at cb
      simp only[rJ,Bool.false_eq_true,if_false,if_true] at cb
      simp (maxSteps:=1000000) +contextual -dsimp [f296,pQ,A1,hi,hc,c9,c7,c2,c3,ha,X8,hb,T9,cb,List.set]
def iZ (k n:Int):Bool:=if A0 k 1=true then B5 1 n else if A7 (A0 k 3) (A0 k 4)=true then B5 2 n else if A0 k 8=true then A0 n 2 else A0 n 0
theorem Ac (k n:Int):fo 268 [A (vI k),A (vI n)]=some (R (vB (iZ k n))):=by
 refine e2o 1 ?_
 cases h5:A0 k 1
 ·cases h6:A0 k 3
  ·cases h8:A0 k 4
   ·cases h7:A0 k 8
    ·simp -dsimp [f268,h5,h6,h8,h7,iZ]
    ·simp -dsimp [f268,h5,h6,h8,h7,iZ]
   ·simp -dsimp [f268,h5,h6,h8,iZ]
  ·simp -dsimp [f268,h5,h6,iZ]
 ·simp -dsimp [f268,h5,iZ]
def D4 (at_:Int):Nat→List Step→List Int
 | _,[]=>[]
 | i,s::r=>if A0 s.parent at_=true then (i:Int)::D4 at_ (i+1) r else D4 at_ (i+1) r
theorem Vi (all:List Step) (B9:all.length≤1000) (at_:Int):∀ (rest:List Step) (i:Nat) (acc:List Int),all.drop i=rest→acc.length≤i→
  B7 E (orc E) (196:Nat) (rest.length+1) (C1 f196 0) ⟨26,[(0,.sl 124 (all.map (sT 219))),(1,vI at_),(5,.ref 5 1 [] 0 acc.length),(6,vI i)],[(5,⟨1,1,false,[.own 2 (iE acc)]⟩)],2⟩=
  some (.exit 0,⟨26,[(0,.sl 124 (all.map (sT 219))),(1,vI at_),(5,.ref 5 1 [] 0 (acc++D4 at_ i rest).length),(6,vI (i+rest.length:Nat)),(11,vB false)],[(5,⟨1,1,false,[.own 2 (iE (acc++D4 at_ i rest))]⟩)],2⟩)
 | [],i,acc,h,ha=>by
  have G5:all.length≤i:=by simpa using h
  have A1:A3 (i:Int) (all.length:Int)=false:=C9 (by omega)
  rw[D5]
  simp +contextual -dsimp [f196,A1,D4]
 | s::rest,i,acc,h,ha=>by
  obtain⟨hi,hc,hr⟩:=F6 h
  have A1:A3 (i:Int) (all.length:Int)=true:=F5 (by omega)
  have hw:IntKind.i64.wrap ((i:Int)+1)=((i+1:Nat):Int):=by rw[B6]<;>omega
  have he:i+1+rest.length=i+(rest.length+1):=by omega
  have H9:acc.length+1≤D0:=by unfold D0;omega
  cases c:A0 s.parent at_
  ·have ih:=Vi all B9 at_ rest (i+1) acc hr (by omega)
   rw[he] at ih
   have hm:D4 at_ i (s::rest)=D4 at_ (i+1) rest:=by simp[D4,c]
   rw[hm]
   refine D6 ?_ (by simpa only[List.length_cons] using ih)
   simp (maxSteps:=1000000) +contextual -dsimp [f196,A1,hi,hc,hw,c]
  ·have ih:=Vi all B9 at_ rest (i+1) (acc++[(i:Int)]) hr (by simp;omega)
   rw[he] at ih
   have hm:acc++D4 at_ i (s::rest)=acc++[(i:Int)]++D4 at_ (i+1) rest:=by simp[D4,c]
   rw[hm]
   refine D6 ?_ (by simpa only[List.length_cons] using ih)
   simp (maxSteps:=1000000) +contextual -dsimp [f196,A1,hi,hc,hw,c,H9,List.set]
theorem qK (l:List Step) (hl:l.length≤1000) (at_:Int):fo 196 [A (.sl 124 (l.map (sT 219))),A (vI at_)]=some ⟨.own 2 (iE (D4 at_ 0 l)),[],true⟩:=by
 have A4:=Vi l hl at_ l 0 [] rfl (by simp)
 have hc:K1 (iE (D4 at_ 0 l))=true:=by
  have:∀ (l:List Int),K1 (iE l)=true:=fun l=>by induction l<;>simp_all [K1,U9,clean]
  exact this _
 refine f2a (l.length+1) ?_
 simp -dsimp [f196] at A4
 simp (maxSteps:=1000000) +contextual -dsimp [f196,A4,hc]
def Ahead (l:List Step) (m:Nat):Prop:=∀ (k:Nat) (h:k<l.length),k<m→-1≤(l[k]).parent∧(l[k]).parent<k
def Z7 (l:List Step) (p:Int):Nat→Int→Bool
 | 0,_=>false
 | f+1,at_=>if B5 0 at_=true then (if A0 at_ p=true then true else Z7 l p f (parOf l at_.toNat)) else false
theorem b3n (l:List Step) (i:Nat) (hi:i<l.length) (ha:Ahead l i):∀ (f:Nat) (at_:Int),-1≤at_→at_<f→at_<i→
  B7 E (orc E) (263:Nat) (f+1) (C1 f263 0) ⟨22,[(0,.sl 124 (l.map (sT 219))),(1,vI i),(5,vI at_)],[],2⟩=
  (if Z7 l (parOf l i) (f+1) at_=true then some (.ret,⟨22,[(4,vB true)],[],2⟩) else some (.exit 0,⟨22,[(0,.sl 124 (l.map (sT 219))),(1,vI i),(5,vI (-1)),(9,vB false)],[],2⟩))
 | 0,at_,h1,h2,h3=>by
  have e:at_=-1:=by omega
  subst e
  have D8:B5 0 (-1)=false:=rfl
  rw[D5]
  simp +contextual -dsimp [f263,D8,Z7]
 | f+1,at_,h1,h2,h3=>by
  cases D8:B5 0 at_
  ·have e:at_=-1:=by simp[B5] at D8;omega
   subst e
   rw[D5]
   simp +contextual -dsimp [f263,D8,Z7]
  ·obtain⟨k,rfl⟩:=Int.eq_ofNat_of_zero_le (show 0≤at_ by simpa[B5] using D8)
   have hk:k<l.length:=by omega
   have hp:(l[i]).parent=parOf l i:=by simp[parOf,hi]
   have gQ:(l[k]).parent=parOf l k:=by simp[parOf,hk]
   obtain⟨q1,q2⟩:=ha k hk (by omega)
   rw[gQ] at q1 q2
   cases c:A0 (k:Int) (parOf l i)
   ·have ih:=b3n l i hi ha f (parOf l k) q1 (by omega) (by omega)
    have hm:Z7 l (parOf l i) (f+1+1) k=Z7 l (parOf l i) (f+1) (parOf l k):=by simp[Z7,D8,c]
    rw[hm]
    refine D6 ?_ ih
    simp (maxSteps:=1000000) +contextual -dsimp [f263,D8,hi,hk,hp,gQ,c]
   ·have hm:Z7 l (parOf l i) (f+1+1) k=true:=by simp[Z7,D8,c]
    rw[hm,if_pos rfl]
    refine G3 ?_ (by simp)
    simp (maxSteps:=1000000) +contextual -dsimp [f263,D8,hi,hp,c]
theorem d3p (l:List Step) (hl:l.length≤1000) (i:Nat) (hi:i<l.length) (ha:Ahead l i):fo 263 [A (.sl 124 (l.map (sT 219))),A (vI i)]=some (R (vB (Z7 l (parOf l i) (i+1) ((i:Int) - 1)))):=by
 have A4:=b3n l i hi ha i ((i:Int) - 1) (by omega) (by omega) (by omega)
 have hw:IntKind.i64.wrap ((i:Int) - 1)=(i:Int) - 1:=by rw[B6]<;>omega
 refine e1m (i+1) ?_
 simp -dsimp [f263] at A4
 cases c:Z7 l (parOf l i) (i+1) ((i:Int) - 1)
 ·simp (maxSteps:=1000000) +contextual -dsimp [f263,A4,hw,c]
 ·simp (maxSteps:=1000000) +contextual -dsimp [f263,A4,hw,c]
theorem Zq (s:ByteArray) (hs:s.size<2 ^ 62):∀ (rest:List UInt8) (i:Nat),s.data.toList.drop i=rest→
  B7 E (orc E) (265:Nat) (rest.length+1) (C1 f265 0) ⟨25,[(0,vS s),(3,vI i)],[],2⟩=
  (if aX rest=true then some (.exit 0,⟨25,[(0,vS s),(3,vI (i+rest.length:Nat)),(7,vB false)],[],2⟩) else some (.ret,⟨25,[(2,vI 5)],[],2⟩))
 | [],i,h=>by
  have G5:s.size≤i:=by rw[←Rk];exact List.drop_eq_nil_iff.1 h
  have A1:A3 (i:Int) (s.size:Int)=false:=C9 (by omega)
  rw[D5]
  simp +contextual -dsimp [f265,A1,aX]
 | b::rest,i,h=>by
  obtain⟨hi,hb,hr⟩:=Yc h
  have A1:A3 (i:Int) (s.size:Int)=true:=F5 (by omega)
  have hw:IntKind.i64.wrap ((i:Int)+1)=((i+1:Nat):Int):=by rw[B6]<;>omega
  have hx:=Yx s i b (by omega) (by simpa using hb)
  have I5:A5 b.toNat 97 122=A2 (A7 (A3 b.toNat 97) (A3 122 b.toNat)):=by
   simp only[A5,A6,A7,A2,B5,A3,Bool.not_or]
   congr 1<;>(rw[←decide_not];congr 1;simp)
  cases c:A7 (A3 b.toNat 97) (A3 122 b.toNat)
  ·have hm:aX (b::rest)=aX rest:=by simp[aX,I5,c,A2]
   have ih:=Zq s hs rest (i+1) hr
   have he:i+1+rest.length=i+(rest.length+1):=by omega
   rw[he] at ih
   rw[hm]
   refine D6 ?_ (by simpa only[List.length_cons] using ih)
   simp (maxSteps:=1000000) +contextual -dsimp [f265,A1,hx,hw,c]
  ·have hm:aX (b::rest)=false:=by simp[aX,I5,c,A2]
   rw[hm,if_neg (by simp)]
   refine G3 ?_ (by simp)
   simp (maxSteps:=1000000) +contextual -dsimp [f265,A1,hx,c]
def qT (s:ByteArray):Int:=if aX s.data.toList=true then (if kG s cU=true then 5 else if A3 8 s.size=true then 2 else 0) else 5
theorem e4o (s:ByteArray) (hs:s.size<2 ^ 62):fo 265 [A (vS s)]=some (R (vI (qT s))):=by
 have A4:=Zq s hs s.data.toList 0 rfl
 refine d8k (s.data.toList.length+1) ?_
 simp -dsimp [f265] at A4
 cases c:aX s.data.toList
 ·simp (maxSteps:=1000000) +contextual -dsimp [f265,A4,c,qT]
 ·simp (maxSteps:=1000000) +contextual -dsimp [f265,A4,c,qT]
def deepM (l:List Step):Nat→Int→Int
 | 0,_=>0
 | f+1,at_=>if B5 0 at_=true then 1+deepM l f (parOf l at_.toNat) else 0
theorem c5x (l:List Step) (i:Nat) (ha:Ahead l i):∀ (f:Nat) (at_ n:Int),-1≤at_→at_<f→at_<i→at_<l.length→0≤n→n+at_<49→
  B7 E (orc E) (264:Nat) (f+1) (C1 f264 0) ⟨20,[(0,.sl 124 (l.map (sT 219))),(1,vI at_),(5,vI n)],[],2⟩=
  some (.exit 0,⟨20,[(0,.sl 124 (l.map (sT 219))),(1,vI (-1)),(5,vI (n+deepM l (f+1) at_)),(11,vB false)],[],2⟩)
 | 0,at_,n,h1,h2,h3,h4,h5,h6=>by
  have e:at_=-1:=by omega
  subst e
  have D8:B5 0 (-1)=false:=rfl
  rw[D5]
  simp +contextual -dsimp [f264,D8,deepM]
 | f+1,at_,n,h1,h2,h3,h4,h5,h6=>by
  cases D8:B5 0 at_
  ·have e:at_=-1:=by simp[B5] at D8;omega
   subst e
   rw[D5]
   simp +contextual -dsimp [f264,D8,deepM]
  ·obtain⟨k,rfl⟩:=Int.eq_ofNat_of_zero_le (show 0≤at_ by simpa[B5] using D8)
   have hk:k<l.length:=by omega
   have gQ:(l[k]).parent=parOf l k:=by simp[parOf,hk]
   obtain⟨q1,q2⟩:=ha k hk (by omega)
   rw[gQ] at q1 q2
   have A1:A3 n 50=true:=F5 (by omega)
   have hw:IntKind.i64.wrap (n+1)=n+1:=by rw[B6]<;>omega
   have ih:=c5x l i ha f (parOf l k) (n+1) q1 (by omega) (by omega) (by omega) (by omega) (by omega)
   have hm:n+deepM l (f+1+1) k=n+1+deepM l (f+1) (parOf l k):=by
    rw[show deepM l (f+1+1) (k:Int)=1+deepM l (f+1) (parOf l k) from by rw[deepM,if_pos D8];simp]
    omega
   rw[hm]
   refine D6 ?_ ih
   simp (maxSteps:=1000000) +contextual -dsimp [f264,D8,A1,hk,gQ,hw]
theorem d8j (l:List Step) (hl:l.length≤24) (i:Nat) (hi:i<l.length) (ha:Ahead l (i+1)):fo 264 [A (.sl 124 (l.map (sT 219))),A (vI i)]=some (R (vI (deepM l (i+2) i))):=by
 have A4:=c5x l (i+1) ha (i+1) (i:Int) 0 (by omega) (by omega) (by omega) (by omega) (by omega) (by omega)
 refine e2g (i+2) ?_
 simp -dsimp [f264] at A4
 simp (maxSteps:=1000000) +contextual -dsimp [f264,A4]
def nE (l:List Step) (at_:Nat):Bool:=
 if A7 (A3 (parOf l at_) 0) (A2 (A0 (C2 l (parOf l at_)) 3))=true then false
 else A2 (A0 (B4 (D4 (parOf l at_) 0 l) ((D4 (parOf l at_) 0 l).length - 1)) at_)
theorem b0e {p:Int}:∀ {l:List Step} {i k:Nat} {s:Step},l[k]?=some s→s.parent=p→((i+k:Nat):Int)∈D4 p i l
 | [],i,k,s,h,_=>by simp at h
 | x::l,i,0,s,h,hp=>by
  simp at h;subst h
  simp[D4,A0,hp]
 | x::l,i,k+1,s,h,hp=>by
  have:=b0e (i:=i+1) (k:=k) (by simpa using h) hp
  have e:i+1+k=i+(k+1):=by omega
  rw[e] at this
  unfold D4
  split
  ·exact List.mem_cons_of_mem _ this
  ·exact this
theorem d9b (l:List Step) (hl:l.length≤1000) (at_:Nat) (ha:at_<l.length) (hp:parOf l at_<l.length):
  fo 269 [A (.sl 124 (l.map (sT 219))),A (vI at_)]=some (R (vB (nE l at_))):=by
 have eD:(l[at_]).parent=parOf l at_:=by simp[parOf,ha]
 refine d1x 1 ?_
 cases c1:A3 (parOf l at_) 0
 ·have p1:0≤parOf l at_:=by simp[A3] at c1;omega
  obtain⟨k,hk⟩:=Int.eq_ofNat_of_zero_le p1
  have N6:k<l.length:=by omega
  have sF:(l[k]).kind=C2 l (k:Int):=by simp[C2,N6]
  rw[hk] at eD c1
  cases c2:A0 (C2 l (k:Int)) 3
  ·simp (maxSteps:=1000000) +contextual -dsimp [f269,ha,eD,hk,N6,sF,c1,c2,nE]
  ·have g:=qK l hl (k:Int)
   have hm:((0+at_:Nat):Int)∈D4 (k:Int) 0 l:=b0e (k:=at_) (s:=l[at_]) (by simp[ha]) eD
   have dO:0<(D4 (k:Int) 0 l).length:=List.length_pos_of_mem hm
   have hkl:(D4 (k:Int) 0 l).length≤1000:=by
    have:∀ (l:List Step) (i:Nat),(D4 (k:Int) i l).length≤l.length:=fun l=>by
     induction l with
     | nil=>intro i;simp[D4]
     | cons s l ih=>intro i;unfold D4;split<;>simp<;>have:=ih (i+1)<;>omega
    have:=this l 0;omega
   have hw:IntKind.i64.wrap (((D4 (k:Int) 0 l).length:Int) - 1)=(((D4 (k:Int) 0 l).length - 1:Nat):Int):=by rw[B6]<;>omega
   have A1:(D4 (k:Int) 0 l).length - 1<(D4 (k:Int) 0 l).length:=by omega
   have e1:B4 (D4 (k:Int) 0 l) (((D4 (k:Int) 0 l).length:Int) - 1)=(D4 (k:Int) 0 l)[(D4 (k:Int) 0 l).length - 1]:=by
    have:(((D4 (k:Int) 0 l).length:Int) - 1).toNat=(D4 (k:Int) 0 l).length - 1:=by omega
    simp[B4,this,A1]
   have N2:Q9 (iE (D4 (k:Int) 0 l))=iE (D4 (k:Int) 0 l):=iH (f:=fun n=>[vI n]) (g:=fun n=>[vI n]) (fun a=>by simp[V2,R4]) _
   simp (maxSteps:=1000000) +contextual -dsimp [f269,ha,eD,hk,N6,sF,c1,c2,g,N2,hw,A1,e1,nE]
 ·simp (maxSteps:=1000000) +contextual -dsimp [f269,ha,eD,c1,nE]
theorem a1t (all:List Node) (B9:all.length≤16):∀ (rest:List Node) (i:Nat) (acc:List Int),all.drop i=rest→acc.length=i→
    (∀ (k:Nat) (n:Node),rest[k]?=some n→(A3 2 n.kind=true→0≤n.left∧n.left<(i+k:Nat))∧(A5 n.kind 3 9=true→0≤n.right∧n.right<(i+k:Nat)))→
    B7 E (orc E) (296:Nat) (rest.length+1) (C1 f296 0) ⟨62,[(0,nS 219 all),(4,.ref 4 1 [] 0 acc.length),(5,vI i)],[(4,⟨1,1,false,[.own 2 (iW acc)]⟩)],2⟩=
    (if (S4 rest acc).1 = true then some (.exit 0, ⟨62, [(0, nS 219 all), (4, .ref 4 1 [] 0 (S4 rest acc).2.length), (5, vI (i + rest.length : Nat)), (13, vB false)], [(4, ⟨1, 1, false, [.own 2 (iW (S4 rest acc).2)]⟩)], 2⟩)
     else some (.ret,⟨62,[(2,.v (.slice none 0 0)),(3,vB false)],[(4,⟨1,1,false,[.own 2 (iW (S4 rest acc).2)]⟩)],2⟩))
  | [],i,acc,h,hs,ho=>by
    have G5:all.length≤i:=by simpa using h
    have A1:A3 (i:Int) (all.length:Int)=false:=C9 (by omega)
    rw[D5]
    simp +contextual -dsimp [f296,A1,S4]
  | n::rest,i,acc,h,hs,ho=>by
    obtain⟨hi,hc,hr⟩:=F6 h
    have he:i+1+rest.length=i+(rest.length+1):=by omega
    have ih:=a1t all B9 rest (i+1) (acc++[dP n.kind]) hr (by simp;omega) (fun k m hk=>by
      have:=ho (k+1) m (by simpa using hk)
      have e:i+1+k=i+(k+1):=by omega
      rw[e];exact this)
    rw[he] at ih
    obtain⟨o1,o2⟩:=ho 0 n (by simp)
    have z:A3 2 n.kind=false∧A5 n.kind 3 9=false∨A3 2 n.kind=true∧A5 n.kind 3 9=false∨A3 2 n.kind=true∧A5 n.kind 3 9=true:=by
      cases c2:A3 2 n.kind
      · left
        refine⟨rfl,?_⟩
        simp[A3,A5,A6,B5] at c2 ⊢;omega
      · right
        cases c3:A5 n.kind 3 9<;>simp
    cases cb:eU n acc
    · have hm : S4 (n :: rest) acc = S4 rest (acc ++ [dP n.kind]) := by simp [S4, cb]
      rw[hm]
      refine D6 ?_ (by simpa only[List.length_cons] using ih)
      rcases z with⟨c2,c3⟩ | ⟨c2,c3⟩ | ⟨c2,c3⟩
      · exact d1l all i _ n acc B9 hi hc hs cb c2 c3
      · obtain ⟨p1, p2⟩ := o1 c2
        obtain⟨a,ha⟩:=Int.eq_ofNat_of_zero_le p1
        exact d7o all i _ n acc B9 hi hc hs cb c2 c3 a ha (by omega)
      · obtain ⟨p1, p2⟩ := o1 c2
        obtain⟨a,ha⟩:=Int.eq_ofNat_of_zero_le p1
        obtain⟨p3,p4⟩:=o2 c3
        obtain⟨b,hb⟩:=Int.eq_ofNat_of_zero_le p3
        exact d5v all i _ n acc B9 hi hc hs cb c2 c3 a b ha (by omega) hb (by omega)
    · have hm : S4 (n :: rest) acc = (false, acc) := by simp [S4, cb]
      rw[hm,if_neg (by simp)]
      refine G3 ?_ (by simp)
      rcases z with⟨c2,c3⟩ | ⟨c2,c3⟩ | ⟨c2,c3⟩
      · unfold eU at cb
        rw[c2,c3] at cb
        simp[A7,A6] at cb
      · obtain ⟨p1, p2⟩ := o1 c2
        obtain⟨a,ha⟩:=Int.eq_ofNat_of_zero_le p1
        exact d7u all i _ n acc B9 hi hc hs cb c2 c3 a ha (by omega)
      · obtain ⟨p1, p2⟩ := o1 c2
        obtain⟨a,ha⟩:=Int.eq_ofNat_of_zero_le p1
        obtain⟨p3,p4⟩:=o2 c3
        obtain⟨b,hb⟩:=Int.eq_ofNat_of_zero_le p3
        exact d5y all i _ n acc B9 hi hc hs cb c2 c3 a b ha (by omega) hb (by omega)
def Sy (l:List Node):Res:=if (S4 l []).1=true then ⟨.tup [.own 2 (iW (S4 l []).2),vB true],[],true⟩ else ⟨.tup [.own 2 [],vB false],[],true⟩
theorem d8m (l:List Node) (hl:l.length≤16) (hg:kB l):fo 296 [A (nS 219 l)]=some (Sy l):=by
 have A4:=a1t l hl l 0 [] rfl rfl (fun k n hk=>by
  have N6:k<l.length:=(List.getElem?_eq_some_iff.1 hk).1
  have he:=(List.getElem?_eq_some_iff.1 hk).2
  have:=hg k N6
  rw[he] at this
  simpa using this)
 refine d9p (l.length+1) ?_
 simp -dsimp [f296] at A4
 unfold Sy
 cases c:(S4 l []).1
 ·rw[c] at A4
  simp (maxSteps:=1000000) +contextual -dsimp [f296,A4,List.set]
 ·rw[c] at A4
  have hc:=yH (S4 l []).2
  simp (maxSteps:=1000000) +contextual -dsimp [f296,A4,hc,List.set]
theorem c6b:∀ (l:List Node) (acc:List Int),(S4 l acc).1=true→(S4 l acc).2.length=acc.length+l.length
 | [],acc,_=>by simp[S4]
 | n::l,acc,h=>by
  unfold S4 at h ⊢
  split at h
  ·simp at h
  ·rename_i hc
   rw[if_neg hc]
   rw[c6b l _ h];simp;omega
theorem e6e {l:List Node} (h:aK l=0):1≤l.length∧l.length≤16∧bN 0 l=0:=by
 unfold aK at h
 split at h
 ·simp at h
 ·rename_i c1
  split at h
  ·rename_i c2;rw[h] at c2;simp[A2,A0] at c2
  ·rename_i c2
   simp[A7,A3] at c1
   simp[A2,A0] at c2
   omega
theorem e1v {l:List Node} (h0:bN 0 l=0):kB l:=fun k hk=>by
 have hz:=Ky h0 k l[k] (by simp[hk])
 rw[Nat.zero_add] at hz
 exact a4q hz
def kE (l:List Node):Int×Int:=
 if A2 (A0 (aK l) 0)=true then (0,aK l)
 else if (S4 l []).1=true then (B4 (S4 l []).2 (l.length - 1),0) else (0,7)
theorem e0k (l:List Node) (hl:l.length<2 ^ 62):fo 270 [A (nS 219 l)]=some (R2 (vI (kE l).1) (vI (kE l).2)):=by
 have g:=Qc l hl
 refine f1m 1 ?_
 cases c1:A0 (aK l) 0
 ·simp (maxSteps:=1000000) +contextual -dsimp [f270,g,c1,kE]
 ·have e0:aK l=0:=by simpa[A0] using c1
  obtain⟨h1,h2,h3⟩:=e6e e0
  have g2:=d8m l h2 (e1v h3)
  unfold Sy at g2
  cases c2:(S4 l []).1
  ·rw[c2] at g2
   simp only[Bool.false_eq_true,if_false] at g2
   simp (maxSteps:=1000000) +contextual -dsimp [f270,g,e0,c2,g2,kE,D2]
  ·rw[c2] at g2
   simp only[if_true] at g2
   have D7:=c6b l [] c2
   simp at D7
   have A1:l.length - 1<(S4 l []).2.length:=by omega
   have Ln:l.length - 1<l.length:=by omega
   have hw:IntKind.i64.wrap ((l.length:Int) - 1)=((l.length - 1:Nat):Int):=by rw[B6]<;>omega
   have e1:B4 (S4 l []).2 ((l.length:Int) - 1)=(S4 l []).2[l.length - 1]:=by
    have:((l.length:Int) - 1).toNat=l.length - 1:=by omega
    simp[B4,this,A1]
   simp (maxSteps:=1000000) +contextual -dsimp [f270,g,e0,c2,g2,D7,hw,Ln,e1,kE,D2,b4d]
def fJ (l:List Node) (want:Int):Int:=
 if A0 l.length 0=true then 0
 else if A2 (A0 (kE l).2 0)=true then (kE l).2
 else if A2 (A0 (kE l).1 want)=true then 7 else 0
theorem b2l (l:List Node) (hl:l.length<2 ^ 62) (want:Int):fo 224 [A (nS 219 l),A (vI want)]=some (R (vI (fJ l want))):=by
 have g:=e0k l hl
 refine d9a 1 ?_
 cases c1:A0 l.length 0
 ·cases c2:A0 (kE l).2 0
  ·simp (maxSteps:=1000000) +contextual -dsimp [f224,g,c1,c2,fJ]
  ·cases c3:A0 (kE l).1 want
   ·simp (maxSteps:=1000000) +contextual -dsimp [f224,g,c1,c2,c3,fJ]
   ·simp (maxSteps:=1000000) +contextual -dsimp [f224,g,c1,c2,c3,fJ]
 ·simp (maxSteps:=1000000) +contextual -dsimp [f224,c1,fJ]
def nU (s:Step):Bool:=A6 (A6 (A7 (A0 s.kind 2) (kG s.name cU)) (A7 (A5 s.kind 5 8) (A0 s.arg 0))) (A7 (A0 s.kind 7) (A0 s.expr.length 0))
theorem xA (s:Step):fo 262 [A (.ipt (sT 219 s))]=some (R (vB (nU s))):=d7l s
def dG (s:Step) (i:Nat):Bool:=A7 (A6 (A0 (i:Int) 0) (A2 (A0 s.parent (-1)))) (A6 (A3 0 (i:Int)) (A2 (A5 s.parent 0 ((i:Int) - 1))))
def rM (l:List Step) (i:Nat):Bool:=Z7 l (parOf l i) (i+1) ((i:Int) - 1)
def nV (l:List Step) (i:Nat):Int:=deepM l (i+2) i
theorem d3n (l:List Step) (hl:l.length≤1000) (i:Nat) (hi:i<l.length) (ha:Ahead l i):fo 263 [A (.sl 124 (l.map (sT 219))),A (vI i)]=some (R (vB (rM l i))):=d3p l hl i hi ha
theorem Vp (l:List Step) (hl:l.length≤24) (i:Nat) (hi:i<l.length) (ha:Ahead l (i+1)):fo 264 [A (.sl 124 (l.map (sT 219))),A (vI i)]=some (R (vI (nV l i))):=d8j l hl i hi ha
def lV (s:Step):Int:=
 if A2 (aY s.kind s.arg)=true then 3 else if A0 s.kind 7=true then aK s.expr else 0
def one4M (l:List Step) (i:Nat) (s:Step):Int:=
 if A7 (A2 (A5 s.kind 1 8)) (A2 (nU s))=true then 1
 else if dG s i=true then 3
 else if A6 (A3 0 (i:Int)) (A2 (rM l i))=true then 1
 else if A3 7 (nV l i)=true then 2
 else if A0 s.kind 2=true then (if A2 (A0 (qT s.name) 0)=true then qT s.name else lV s)
 else lV s
theorem Wg {s:Step} {i:Nat} (h:dG s i=false):-1≤s.parent∧s.parent<i:=by
 unfold dG at h
 simp only[A7,A6,A2,A5,B5,A3,A0,Bool.or_eq_false_iff,Bool.and_eq_false_iff,Bool.not_eq_false',decide_eq_true_eq,decide_eq_false_iff_not,beq_eq_false_iff_ne,beq_iff_eq,Bool.and_eq_true] at h
 omega
theorem e2d (l:List Step) (hl:l.length≤24) (i:Nat) (hi:i<l.length) (ha:Ahead l i) (hn:(l[i]).name.size<2 ^ 62) (hx:(l[i]).expr.length<2 ^ 62):
  fo 222 [A (.sl 124 (l.map (sT 219))),A (vI i)]=some (R (vI (one4M l i l[i]))):=by
 have hw:IntKind.i64.wrap ((i:Int) - 1)=(i:Int) - 1:=by rw[B6]<;>omega
 have g1:=d3n l (by omega) i hi ha
 have g3:=e4o (l[i]).name hn
 have g4:=Qc (l[i]).expr hx
 refine e4q 1 ?_
 cases c1:A7 (A2 (A5 (l[i]).kind 1 8)) (A2 (nU (l[i])))
 ·cases c2:dG (l[i]) i
  ·have X8:Ahead l (i+1):=fun k hk N6=>by
    by_cases e:k=i
    ·subst e;exact Wg c2
    ·exact ha k hk (by omega)
   have g2:=Vp l hl i hi X8
   have d2:=c2
   unfold dG at d2
   cases c3:A6 (A3 0 (i:Int)) (A2 (rM l i))
   ·cases c4:A3 7 (nV l i)
    ·cases c5:A0 (l[i]).kind 2
     ·cases c6:aY (l[i]).kind (l[i]).arg<;>cases c7:A0 (l[i]).kind 7
      all_goals simp (maxSteps:=1000000) +contextual -dsimp [f222,G0,xA,b4t,hi,hw,g1,g2,g4,c1,c2,d2,c3,c4,c5,c6,c7,one4M,lV]
     ·have c7:A0 (l[i]).kind 7=false:=by simp[A0] at c5 ⊢;omega
      cases c8:A0 (qT (l[i]).name) 0<;>cases c6:aY (l[i]).kind (l[i]).arg
      all_goals simp (maxSteps:=1000000) +contextual -dsimp [f222,G0,xA,b4t,hi,hw,g1,g2,g3,c1,c2,d2,c3,c4,c5,c6,c7,c8,one4M,lV]
    ·simp (maxSteps:=1000000) +contextual -dsimp [f222,G0,xA,hi,hw,g1,g2,c1,c2,d2,c3,c4,one4M]
   ·simp (maxSteps:=1000000) +contextual -dsimp [f222,G0,xA,hi,hw,g1,c1,c2,d2,c3,one4M]
  ·have d2:=c2
   unfold dG at d2
   simp (maxSteps:=1000000) +contextual -dsimp [f222,G0,xA,hi,hw,c1,c2,d2,one4M]
 ·simp (maxSteps:=1000000) +contextual -dsimp [f222,G0,xA,hi,c1,one4M]
theorem Y3 (l:List Int):Q9 (iE l)=iE l:=iH (f:=fun n=>[vI n]) (g:=fun n=>[vI n]) (fun a=>by simp[V2,R4]) _
def kidsN (l:List Step) (i:Int):Int:=(D4 i 0 l).length
def qX (l:List Step) (i:Nat) (s:Step):Int:=
 if A2 (iZ s.kind (kidsN l i))=true then 1
 else if A2 (W4 (nE l i) (A3 0 s.cond.length))=true then 1
 else if A3 0 s.cond.length=true then aK s.cond else 0
def dN (l:List Step):Nat→List Step→Int
 | _,[]=>0
 | i,s::r=>if A0 (qX l i s) 0=true then dN l (i+1) r else qX l i s
theorem b2o (all:List Step) (B9:all.length≤24) (hp:∀ k,k<all.length→parOf all k<all.length) (hx:∀ s,s∈all→s.cond.length<2 ^ 62):∀ (rest:List Step) (i:Nat),all.drop i=rest→
  B7 E (orc E) (223:Nat) (rest.length+1) (C1 f223 0) ⟨49,[(0,.sl 124 (all.map (sT 219))),(3,vI i)],[],2⟩=
  (if A0 (dN all i rest) 0=true then some (.exit 0,⟨49,[(0,.sl 124 (all.map (sT 219))),(3,vI (i+rest.length:Nat)),(8,vB false)],[],2⟩) else some (.ret,⟨49,[(2,vI (dN all i rest))],[],2⟩))
 | [],i,h=>by
  have G5:all.length≤i:=by simpa using h
  have A1:A3 (i:Int) (all.length:Int)=false:=C9 (by omega)
  rw[D5]
  simp +contextual -dsimp [f223,A1,dN,A0]
 | s::rest,i,h=>by
  obtain⟨hi,hc,hr⟩:=F6 h
  have A1:A3 (i:Int) (all.length:Int)=true:=F5 (by omega)
  have hw:IntKind.i64.wrap ((i:Int)+1)=((i+1:Nat):Int):=by rw[B6]<;>omega
  have he:i+1+rest.length=i+(rest.length+1):=by omega
  have g1:=qK all (by omega) i
  have g2:=d9b all (by omega) i hi (hp i hi)
  have g3:=Qc s.cond (hx s (by rw[←hc];exact List.getElem_mem _))
  have hs:=Y3 (D4 (i:Int) 0 all)
  cases c:A0 (qX all i s) 0
  ·have hm:dN all i (s::rest)=qX all i s:=by simp[dN,c]
   rw[hm,c,if_neg (by simp)]
   refine G3 ?_ (by simp)
   unfold qX kidsN at c ⊢
   cases c1:iZ s.kind (D4 (i:Int) 0 all).length
   ·simp (maxSteps:=1000000) +contextual -dsimp [f223,Ac,A1,hi,hc,g1,hs,c1]
   ·cases c2:W4 (nE all i) (A3 0 s.cond.length)
    ·simp (maxSteps:=1000000) +contextual -dsimp [f223,Ac,A1,hi,hc,g1,hs,g2,c1,c2]
    ·cases c3:A3 0 s.cond.length
     ·rw[c1,c2,c3] at c;simp[A2,A0] at c
     ·have c2':=c2
      rw[c3] at c2'
      cases c4:A0 (aK s.cond) 0
      ·simp (maxSteps:=1000000) +contextual -dsimp [f223,Ac,A1,hi,hc,g1,hs,g2,g3,c1,c2',c3,c4]
      ·rw[c1,c2,c3] at c;simp[A2,c4] at c
  ·have ih:=b2o all B9 hp hx rest (i+1) hr
   rw[he] at ih
   have hm:dN all i (s::rest)=dN all (i+1) rest:=by simp[dN,c]
   rw[hm]
   refine D6 ?_ (by simpa only[List.length_cons] using ih)
   unfold qX kidsN at c
   cases c1:iZ s.kind (D4 (i:Int) 0 all).length
   ·rw[c1] at c;simp[A2,A0] at c
   ·cases c2:W4 (nE all i) (A3 0 s.cond.length)
    ·rw[c1,c2] at c;simp[A2,A0] at c
    ·cases c3:A3 0 s.cond.length
     ·have c2':=c2
      rw[c3] at c2'
      simp (maxSteps:=1000000) +contextual -dsimp [f223,Ac,A1,hi,hc,hw,g1,hs,g2,c1,c2',c3]
     ·have c2':=c2
      rw[c3] at c2'
      cases c4:A0 (aK s.cond) 0
      ·rw[c1,c2,c3] at c;simp[A2,c4] at c
      ·simp (maxSteps:=1000000) +contextual -dsimp [f223,Ac,A1,hi,hc,hw,g1,hs,g2,g3,c1,c2',c3,c4]
theorem d8q (l:List Step) (hl:l.length≤24) (hp:∀ k,k<l.length→parOf l k<l.length) (hx:∀ s,s∈l→s.cond.length<2 ^ 62):
  fo 223 [A (.sl 124 (l.map (sT 219)))]=some (R (vI (dN l 0 l))):=by
 have A4:=b2o l hl hp hx l 0 rfl
 refine f1j (l.length+1) ?_
 simp -dsimp [f223] at A4
 cases c:A0 (dN l 0 l) 0
 ·rw[c] at A4
  simp (maxSteps:=1000000) +contextual -dsimp [f223,A4]
 ·rw[c] at A4
  have c':dN l 0 l=0:=by simpa[A0] using c
  simp (maxSteps:=1000000) +contextual -dsimp [f223,c',A4]
end Go.TM.Ft
