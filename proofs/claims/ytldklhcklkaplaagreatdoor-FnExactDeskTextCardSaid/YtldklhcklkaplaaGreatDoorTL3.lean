/- What functions of the program come to, by the machine. -/
import Derived.Test.YtldklhcklkaplaaGreatDoorTL2
set_option linter.unusedSimpArgs false
set_option linter.unusedVariables false
set_option maxHeartbeats 4000000
namespace Go.TM.It
open Go Go.TM Go.Proofs
set_option maxRecDepth 20000
attribute [local congr] gif_cg
attribute [local simp] footOf noClash clash upsets setsHit setHits layHits layMeets setsMeet evFeet
def want4 (k:Int):Int:=if orB (eqI k 9) (eqI k 10)=true then 2 else 1
def is4 (k:Int):Int:=if leI 7 k=true then 2 else 1
def sAt (types:List Int) (k:Int):Int:=types.getD k.toNat 0
def bad4 (n:Node) (types:List Int):Bool:=
 orB (andB (ltI 2 n.kind) (notB (eqI (sAt types n.left) (want4 n.kind)))) (andB (inR n.kind 3 9) (notB (eqI (sAt types n.right) (want4 n.kind))))
def types4M:List Node→List Int→Bool×List Int
 | [],acc=>(true,acc)
 | n::r,acc=>if bad4 n acc=true then (false,acc) else types4M r (acc++[is4 n.kind])
theorem st55na (all:List Node) (i k:Nat) (n:Node) (acc:List Int) (hall:all.length≤16) (hi:i<all.length) (hc:all[i]=n) (hs:acc.length=i)
   (cb : bad4 n acc = false) (c2 : ltI 2 n.kind = false) (c3 : inR n.kind 3 9 = false) :
    evCode E (orc E) (146:Nat) (evLoop E (orc E) (146:Nat) (k+1)) (loopOf Tryz.f146 0) ⟨62,[(0,nS 206 all),(4,.ref 4 1 [] 0 acc.length),(5,vI i)],[(4,⟨1,1,false,[.own 2 (iW acc)]⟩)],2⟩=
    some (.normal,⟨62,[(0,nS 206 all),(4,.ref 4 1 [] 0 (acc++[is4 n.kind]).length),(5,vI (i+1:Nat))],[(4,⟨1,1,false,[.own 2 (iW (acc++[is4 n.kind]))]⟩)],2⟩):=by
    have _:=cb
    have hlt:ltI (i:Int) (all.length:Int)=true:=ltI_t (by omega)
    have hw:IntKind.i64.wrap ((i:Int)+1)=((i+1:Nat):Int):=by rw[wrapI]<;>omega
    have hm1:acc.length+1≤maxElems:=by unfold maxElems;omega
    unfold bad4 want4 at cb
    try unfold is4
    cases c9:orB (eqI n.kind 9) (eqI n.kind 10)<;>cases c7:leI 7 n.kind<;>rw[c9] at cb
    all_goals
      simp (maxSteps:=1000000) +contextual -dsimp [Tryz.f146,f_l3Two,hlt,hi,hc,hw,hm1,c9,c7,c2,c3,List.set]
theorem st55nb (all:List Node) (i k:Nat) (n:Node) (acc:List Int) (hall:all.length≤16) (hi:i<all.length) (hc:all[i]=n) (hs:acc.length=i)
   (cb : bad4 n acc = false) (c2 : ltI 2 n.kind = true) (c3 : inR n.kind 3 9 = false) (a : Nat) (ha : n.left = a) (ha2 : a < acc.length) :
    evCode E (orc E) (146:Nat) (evLoop E (orc E) (146:Nat) (k+1)) (loopOf Tryz.f146 0) ⟨62,[(0,nS 206 all),(4,.ref 4 1 [] 0 acc.length),(5,vI i)],[(4,⟨1,1,false,[.own 2 (iW acc)]⟩)],2⟩=
    some (.normal,⟨62,[(0,nS 206 all),(4,.ref 4 1 [] 0 (acc++[is4 n.kind]).length),(5,vI (i+1:Nat))],[(4,⟨1,1,false,[.own 2 (iW (acc++[is4 n.kind]))]⟩)],2⟩):=by
    have hlt:ltI (i:Int) (all.length:Int)=true:=ltI_t (by omega)
    have hw:IntKind.i64.wrap ((i:Int)+1)=((i+1:Nat):Int):=by rw[wrapI]<;>omega
    have hm1:acc.length+1≤maxElems:=by unfold maxElems;omega
    unfold bad4 want4 at cb
    try unfold is4
    cases c9:orB (eqI n.kind 9) (eqI n.kind 10)<;>cases c7:leI 7 n.kind<;>rw[c9] at cb
    all_goals
      have e1:sAt acc (a:Int)=acc[a]:=by simp[sAt,ha2]
      rw[ha,e1,c2,c3] at cb
      simp only[andB_tl,andB_fl,orB_fr,Bool.false_eq_true,if_false,if_true] at cb
      simp (maxSteps:=1000000) +contextual -dsimp [Tryz.f146,f_l3Two,hlt,hi,hc,hw,hm1,c9,c7,c2,c3,ha,ha2,cb,List.set]
theorem st55nc (all:List Node) (i k:Nat) (n:Node) (acc:List Int) (hall:all.length≤16) (hi:i<all.length) (hc:all[i]=n) (hs:acc.length=i)
   (cb : bad4 n acc = false) (c2 : ltI 2 n.kind = true) (c3 : inR n.kind 3 9 = true) (a b : Nat) (ha : n.left = a) (ha2 : a < acc.length) (hb : n.right = b) (hb2 : b < acc.length) :
    evCode E (orc E) (146:Nat) (evLoop E (orc E) (146:Nat) (k+1)) (loopOf Tryz.f146 0) ⟨62,[(0,nS 206 all),(4,.ref 4 1 [] 0 acc.length),(5,vI i)],[(4,⟨1,1,false,[.own 2 (iW acc)]⟩)],2⟩=
    some (.normal,⟨62,[(0,nS 206 all),(4,.ref 4 1 [] 0 (acc++[is4 n.kind]).length),(5,vI (i+1:Nat))],[(4,⟨1,1,false,[.own 2 (iW (acc++[is4 n.kind]))]⟩)],2⟩):=by
    have hlt:ltI (i:Int) (all.length:Int)=true:=ltI_t (by omega)
    have hw:IntKind.i64.wrap ((i:Int)+1)=((i+1:Nat):Int):=by rw[wrapI]<;>omega
    have hm1:acc.length+1≤maxElems:=by unfold maxElems;omega
    unfold bad4 want4 at cb
    try unfold is4
    cases c9:orB (eqI n.kind 9) (eqI n.kind 10)<;>cases c7:leI 7 n.kind<;>rw[c9] at cb
    all_goals
      have e1:sAt acc (a:Int)=acc[a]:=by simp[sAt,ha2]
      have e2:sAt acc (b:Int)=acc[b]:=by simp[sAt,hb2]
      rw[ha,e1,hb,e2,c2,c3] at cb
      simp only[andB_tl,Bool.false_eq_true,if_false,if_true] at cb
      simp (maxSteps:=1000000) +contextual -dsimp [Tryz.f146,f_l3Two,hlt,hi,hc,hw,hm1,c9,c7,c2,c3,ha,ha2,hb,hb2,cb,List.set]
theorem st55rb (all:List Node) (i k:Nat) (n:Node) (acc:List Int) (hall:all.length≤16) (hi:i<all.length) (hc:all[i]=n) (hs:acc.length=i)
   (cb : bad4 n acc = true) (c2 : ltI 2 n.kind = true) (c3 : inR n.kind 3 9 = false) (a : Nat) (ha : n.left = a) (ha2 : a < acc.length) :
    evCode E (orc E) (146:Nat) (evLoop E (orc E) (146:Nat) (k+1)) (loopOf Tryz.f146 0) ⟨62,[(0,nS 206 all),(4,.ref 4 1 [] 0 acc.length),(5,vI i)],[(4,⟨1,1,false,[.own 2 (iW acc)]⟩)],2⟩=
    some (.ret,⟨62,[(2,.v (.slice none 0 0)),(3,vB false)],[(4,⟨1,1,false,[.own 2 (iW acc)]⟩)],2⟩):=by
    have hlt:ltI (i:Int) (all.length:Int)=true:=ltI_t (by omega)
    have hw:IntKind.i64.wrap ((i:Int)+1)=((i+1:Nat):Int):=by rw[wrapI]<;>omega
    have hm1:acc.length+1≤maxElems:=by unfold maxElems;omega
    unfold bad4 want4 at cb
    try unfold is4
    cases c9:orB (eqI n.kind 9) (eqI n.kind 10)<;>cases c7:leI 7 n.kind<;>rw[c9] at cb
    all_goals
      have e1:sAt acc (a:Int)=acc[a]:=by simp[sAt,ha2]
      rw[ha,e1,c2,c3] at cb
      simp only[andB_tl,andB_fl,orB_fr,Bool.false_eq_true,if_false,if_true] at cb
      simp (maxSteps:=1000000) +contextual -dsimp [Tryz.f146,hlt,hi,hc,c9,c7,c2,ha,ha2,cb,List.set]
theorem st55rc (all:List Node) (i k:Nat) (n:Node) (acc:List Int) (hall:all.length≤16) (hi:i<all.length) (hc:all[i]=n) (hs:acc.length=i)
   (cb : bad4 n acc = true) (c2 : ltI 2 n.kind = true) (c3 : inR n.kind 3 9 = true) (a b : Nat) (ha : n.left = a) (ha2 : a < acc.length) (hb : n.right = b) (hb2 : b < acc.length) :
    evCode E (orc E) (146:Nat) (evLoop E (orc E) (146:Nat) (k+1)) (loopOf Tryz.f146 0) ⟨62,[(0,nS 206 all),(4,.ref 4 1 [] 0 acc.length),(5,vI i)],[(4,⟨1,1,false,[.own 2 (iW acc)]⟩)],2⟩=
    some (.ret,⟨62,[(2,.v (.slice none 0 0)),(3,vB false)],[(4,⟨1,1,false,[.own 2 (iW acc)]⟩)],2⟩):=by
    have hlt:ltI (i:Int) (all.length:Int)=true:=ltI_t (by omega)
    have hw:IntKind.i64.wrap ((i:Int)+1)=((i+1:Nat):Int):=by rw[wrapI]<;>omega
    have hm1:acc.length+1≤maxElems:=by unfold maxElems;omega
    unfold bad4 want4 at cb
    try unfold is4
    cases c9:orB (eqI n.kind 9) (eqI n.kind 10)<;>cases c7:leI 7 n.kind<;>rw[c9] at cb
    all_goals
      have e1:sAt acc (a:Int)=acc[a]:=by simp[sAt,ha2]
      have e2:sAt acc (b:Int)=acc[b]:=by simp[sAt,hb2]
      rw[ha,e1,hb,e2,c2,c3] at cb
      simp only[andB_tl,Bool.false_eq_true,if_false,if_true] at cb
      simp (maxSteps:=1000000) +contextual -dsimp [Tryz.f146,f_l3Two,hlt,hi,hc,c9,c7,c2,c3,ha,ha2,hb,hb2,cb,List.set]
def manyM (k n:Int):Bool:=if eqI k 1=true then leI 1 n else if orB (eqI k 3) (eqI k 4)=true then leI 2 n else if eqI k 8=true then eqI n 2 else eqI n 0
theorem f_l4Many (k n:Int):fo 123 [A (vI k),A (vI n)]=some (R (vB (manyM k n))):=by
 refine orc_123 1 ?_
 cases h5:eqI k 1
 ·cases h6:eqI k 3
  ·cases h8:eqI k 4
   ·cases h7:eqI k 8
    ·simp -dsimp [Tryz.f123,h5,h6,h8,h7,manyM]
    ·simp -dsimp [Tryz.f123,h5,h6,h8,h7,manyM]
   ·simp -dsimp [Tryz.f123,h5,h6,h8,manyM]
  ·simp -dsimp [Tryz.f123,h5,h6,manyM]
 ·simp -dsimp [Tryz.f123,h5,manyM]
def kids4M (at_:Int):Nat→List Step→List Int
 | _,[]=>[]
 | i,s::r=>if eqI s.parent at_=true then (i:Int)::kids4M at_ (i+1) r else kids4M at_ (i+1) r
theorem loop40 (all:List Step) (hall:all.length≤1000) (at_:Int):∀ (rest:List Step) (i:Nat) (acc:List Int),all.drop i=rest→acc.length≤i→
  evLoop E (orc E) (98:Nat) (rest.length+1) (loopOf Tryz.f98 0) ⟨26,[(0,.sl 112 (all.map (sT 206))),(1,vI at_),(5,.ref 5 1 [] 0 acc.length),(6,vI i)],[(5,⟨1,1,false,[.own 2 (iE acc)]⟩)],2⟩=
  some (.exit 0,⟨26,[(0,.sl 112 (all.map (sT 206))),(1,vI at_),(5,.ref 5 1 [] 0 (acc++kids4M at_ i rest).length),(6,vI (i+rest.length:Nat)),(11,vB false)],[(5,⟨1,1,false,[.own 2 (iE (acc++kids4M at_ i rest))]⟩)],2⟩)
 | [],i,acc,h,ha=>by
  have hge:all.length≤i:=by simpa using h
  have hlt:ltI (i:Int) (all.length:Int)=false:=ltI_f (by omega)
  rw[loop_eq]
  simp +contextual -dsimp [Tryz.f98,hlt,kids4M]
 | s::rest,i,acc,h,ha=>by
  obtain⟨hi,hc,hr⟩:=drop_cons h
  have hlt:ltI (i:Int) (all.length:Int)=true:=ltI_t (by omega)
  have hw:IntKind.i64.wrap ((i:Int)+1)=((i+1:Nat):Int):=by rw[wrapI]<;>omega
  have he:i+1+rest.length=i+(rest.length+1):=by omega
  have hm1:acc.length+1≤maxElems:=by unfold maxElems;omega
  cases c:eqI s.parent at_
  ·have ih:=loop40 all hall at_ rest (i+1) acc hr (by omega)
   rw[he] at ih
   have hm:kids4M at_ i (s::rest)=kids4M at_ (i+1) rest:=by simp[kids4M,c]
   rw[hm]
   refine evLoop_next ?_ (by simpa only[List.length_cons] using ih)
   simp (maxSteps:=1000000) +contextual -dsimp [Tryz.f98,hlt,hi,hc,hw,c]
  ·have ih:=loop40 all hall at_ rest (i+1) (acc++[(i:Int)]) hr (by simp;omega)
   rw[he] at ih
   have hm:acc++kids4M at_ i (s::rest)=acc++[(i:Int)]++kids4M at_ (i+1) rest:=by simp[kids4M,c]
   rw[hm]
   refine evLoop_next ?_ (by simpa only[List.length_cons] using ih)
   simp (maxSteps:=1000000) +contextual -dsimp [Tryz.f98,hlt,hi,hc,hw,c,hm1,List.set]
theorem f_l4Kids (l:List Step) (hl:l.length≤1000) (at_:Int):fo 98 [A (.sl 112 (l.map (sT 206))),A (vI at_)]=some ⟨.own 2 (iE (kids4M at_ 0 l)),[],true⟩:=by
 have hlp:=loop40 l hl at_ l 0 [] rfl (by simp)
 have hc:cleanEs (iE (kids4M at_ 0 l))=true:=by
  have:∀ (l:List Int),cleanEs (iE l)=true:=fun l=>by induction l<;>simp_all [cleanEs,cleanL,clean]
  exact this _
 refine orc_98 (l.length+1) ?_
 simp -dsimp [Tryz.f98] at hlp
 simp (maxSteps:=1000000) +contextual -dsimp [Tryz.f98,hlp,hc]
def Ahead (l:List Step) (m:Nat):Prop:=∀ (k:Nat) (h:k<l.length),k<m→-1≤(l[k]).parent∧(l[k]).parent<k
def lineM (l:List Step) (p:Int):Nat→Int→Bool
 | 0,_=>false
 | f+1,at_=>if leI 0 at_=true then (if eqI at_ p=true then true else lineM l p f (parOf l at_.toNat)) else false
theorem loop34 (l:List Step) (i:Nat) (hi:i<l.length) (ha:Ahead l i):∀ (f:Nat) (at_:Int),-1≤at_→at_<f→at_<i→
  evLoop E (orc E) (118:Nat) (f+1) (loopOf Tryz.f118 0) ⟨22,[(0,.sl 112 (l.map (sT 206))),(1,vI i),(5,vI at_)],[],2⟩=
  (if lineM l (parOf l i) (f+1) at_=true then some (.ret,⟨22,[(4,vB true)],[],2⟩) else some (.exit 0,⟨22,[(0,.sl 112 (l.map (sT 206))),(1,vI i),(5,vI (-1)),(9,vB false)],[],2⟩))
 | 0,at_,h1,h2,h3=>by
  have e:at_=-1:=by omega
  subst e
  have hle:leI 0 (-1)=false:=rfl
  rw[loop_eq]
  simp +contextual -dsimp [Tryz.f118,hle,lineM]
 | f+1,at_,h1,h2,h3=>by
  cases hle:leI 0 at_
  ·have e:at_=-1:=by simp[leI] at hle;omega
   subst e
   rw[loop_eq]
   simp +contextual -dsimp [Tryz.f118,hle,lineM]
  ·obtain⟨k,rfl⟩:=Int.eq_ofNat_of_zero_le (show 0≤at_ by simpa[leI] using hle)
   have hk:k<l.length:=by omega
   have hp:(l[i]).parent=parOf l i:=by simp[parOf,hi]
   have hpk:(l[k]).parent=parOf l k:=by simp[parOf,hk]
   obtain⟨q1,q2⟩:=ha k hk (by omega)
   rw[hpk] at q1 q2
   cases c:eqI (k:Int) (parOf l i)
   ·have ih:=loop34 l i hi ha f (parOf l k) q1 (by omega) (by omega)
    have hm:lineM l (parOf l i) (f+1+1) k=lineM l (parOf l i) (f+1) (parOf l k):=by simp[lineM,hle,c]
    rw[hm]
    refine evLoop_next ?_ ih
    simp (maxSteps:=1000000) +contextual -dsimp [Tryz.f118,hle,hi,hk,hp,hpk,c]
   ·have hm:lineM l (parOf l i) (f+1+1) k=true:=by simp[lineM,hle,c]
    rw[hm,if_pos rfl]
    refine evLoop_out ?_ (by simp)
    simp (maxSteps:=1000000) +contextual -dsimp [Tryz.f118,hle,hi,hp,c]
theorem f_l4Line (l:List Step) (hl:l.length≤1000) (i:Nat) (hi:i<l.length) (ha:Ahead l i):fo 118 [A (.sl 112 (l.map (sT 206))),A (vI i)]=some (R (vB (lineM l (parOf l i) (i+1) ((i:Int) - 1)))):=by
 have hlp:=loop34 l i hi ha i ((i:Int) - 1) (by omega) (by omega) (by omega)
 have hw:IntKind.i64.wrap ((i:Int) - 1)=(i:Int) - 1:=by rw[wrapI]<;>omega
 refine orc_118 (i+1) ?_
 simp -dsimp [Tryz.f118] at hlp
 cases c:lineM l (parOf l i) (i+1) ((i:Int) - 1)
 ·simp (maxSteps:=1000000) +contextual -dsimp [Tryz.f118,hlp,hw,c]
 ·simp (maxSteps:=1000000) +contextual -dsimp [Tryz.f118,hlp,hw,c]
theorem loop36 (s:ByteArray) (hs:s.size<2 ^ 62):∀ (rest:List UInt8) (i:Nat),s.data.toList.drop i=rest→
  evLoop E (orc E) (120:Nat) (rest.length+1) (loopOf Tryz.f120 0) ⟨25,[(0,vS s),(3,vI i)],[],2⟩=
  (if smalls rest=true then some (.exit 0,⟨25,[(0,vS s),(3,vI (i+rest.length:Nat)),(7,vB false)],[],2⟩) else some (.ret,⟨25,[(2,vI 5)],[],2⟩))
 | [],i,h=>by
  have hge:s.size≤i:=by rw[←size_list];exact List.drop_eq_nil_iff.1 h
  have hlt:ltI (i:Int) (s.size:Int)=false:=ltI_f (by omega)
  rw[loop_eq]
  simp +contextual -dsimp [Tryz.f120,hlt,smalls]
 | b::rest,i,h=>by
  obtain⟨hi,hb,hr⟩:=byte_at h
  have hlt:ltI (i:Int) (s.size:Int)=true:=ltI_t (by omega)
  have hw:IntKind.i64.wrap ((i:Int)+1)=((i+1:Nat):Int):=by rw[wrapI]<;>omega
  have hx:=pr_idx s i b (by omega) (by simpa using hb)
  have hin:inR b.toNat 97 122=notB (orB (ltI b.toNat 97) (ltI 122 b.toNat)):=by
   simp only[inR,andB,orB,notB,leI,ltI,Bool.not_or]
   congr 1<;>(rw[←decide_not];congr 1;simp)
  cases c:orB (ltI b.toNat 97) (ltI 122 b.toNat)
  ·have hm:smalls (b::rest)=smalls rest:=by simp[smalls,hin,c,notB]
   have ih:=loop36 s hs rest (i+1) hr
   have he:i+1+rest.length=i+(rest.length+1):=by omega
   rw[he] at ih
   rw[hm]
   refine evLoop_next ?_ (by simpa only[List.length_cons] using ih)
   simp (maxSteps:=1000000) +contextual -dsimp [Tryz.f120,hlt,hx,hw,c]
  ·have hm:smalls (b::rest)=false:=by simp[smalls,hin,c,notB]
   rw[hm,if_neg (by simp)]
   refine evLoop_out ?_ (by simp)
   simp (maxSteps:=1000000) +contextual -dsimp [Tryz.f120,hlt,hx,c]
def name4M (s:ByteArray):Int:=if smalls s.data.toList=true then (if eqS s emp=true then 5 else if ltI 8 s.size=true then 2 else 0) else 5
theorem f_l1Name (s:ByteArray) (hs:s.size<2 ^ 62):fo 120 [A (vS s)]=some (R (vI (name4M s))):=by
 have hlp:=loop36 s hs s.data.toList 0 rfl
 refine orc_120 (s.data.toList.length+1) ?_
 simp -dsimp [Tryz.f120] at hlp
 cases c:smalls s.data.toList
 ·simp (maxSteps:=1000000) +contextual -dsimp [Tryz.f120,hlp,c,name4M]
 ·simp (maxSteps:=1000000) +contextual -dsimp [Tryz.f120,hlp,c,name4M]
def deepM (l:List Step):Nat→Int→Int
 | 0,_=>0
 | f+1,at_=>if leI 0 at_=true then 1+deepM l f (parOf l at_.toNat) else 0
theorem loop35 (l:List Step) (i:Nat) (ha:Ahead l i):∀ (f:Nat) (at_ n:Int),-1≤at_→at_<f→at_<i→at_<l.length→0≤n→n+at_<49→
  evLoop E (orc E) (119:Nat) (f+1) (loopOf Tryz.f119 0) ⟨20,[(0,.sl 112 (l.map (sT 206))),(1,vI at_),(5,vI n)],[],2⟩=
  some (.exit 0,⟨20,[(0,.sl 112 (l.map (sT 206))),(1,vI (-1)),(5,vI (n+deepM l (f+1) at_)),(11,vB false)],[],2⟩)
 | 0,at_,n,h1,h2,h3,h4,h5,h6=>by
  have e:at_=-1:=by omega
  subst e
  have hle:leI 0 (-1)=false:=rfl
  rw[loop_eq]
  simp +contextual -dsimp [Tryz.f119,hle,deepM]
 | f+1,at_,n,h1,h2,h3,h4,h5,h6=>by
  cases hle:leI 0 at_
  ·have e:at_=-1:=by simp[leI] at hle;omega
   subst e
   rw[loop_eq]
   simp +contextual -dsimp [Tryz.f119,hle,deepM]
  ·obtain⟨k,rfl⟩:=Int.eq_ofNat_of_zero_le (show 0≤at_ by simpa[leI] using hle)
   have hk:k<l.length:=by omega
   have hpk:(l[k]).parent=parOf l k:=by simp[parOf,hk]
   obtain⟨q1,q2⟩:=ha k hk (by omega)
   rw[hpk] at q1 q2
   have hlt:ltI n 50=true:=ltI_t (by omega)
   have hw:IntKind.i64.wrap (n+1)=n+1:=by rw[wrapI]<;>omega
   have ih:=loop35 l i ha f (parOf l k) (n+1) q1 (by omega) (by omega) (by omega) (by omega) (by omega)
   have hm:n+deepM l (f+1+1) k=n+1+deepM l (f+1) (parOf l k):=by
    rw[show deepM l (f+1+1) (k:Int)=1+deepM l (f+1) (parOf l k) from by rw[deepM,if_pos hle];simp]
    omega
   rw[hm]
   refine evLoop_next ?_ ih
   simp (maxSteps:=1000000) +contextual -dsimp [Tryz.f119,hle,hlt,hk,hpk,hw]
theorem f_l4Deep (l:List Step) (hl:l.length≤24) (i:Nat) (hi:i<l.length) (ha:Ahead l (i+1)):fo 119 [A (.sl 112 (l.map (sT 206))),A (vI i)]=some (R (vI (deepM l (i+2) i))):=by
 have hlp:=loop35 l (i+1) ha (i+1) (i:Int) 0 (by omega) (by omega) (by omega) (by omega) (by omega) (by omega)
 refine orc_119 (i+2) ?_
 simp -dsimp [Tryz.f119] at hlp
 simp (maxSteps:=1000000) +contextual -dsimp [Tryz.f119,hlp]
def needsM (l:List Step) (at_:Nat):Bool:=
 if orB (ltI (parOf l at_) 0) (notB (eqI (kindOf l (parOf l at_)) 3))=true then false
 else notB (eqI (szAt (kids4M (parOf l at_) 0 l) ((kids4M (parOf l at_) 0 l).length - 1)) at_)
theorem kids4_mem {p:Int}:∀ {l:List Step} {i k:Nat} {s:Step},l[k]?=some s→s.parent=p→((i+k:Nat):Int)∈kids4M p i l
 | [],i,k,s,h,_=>by simp at h
 | x::l,i,0,s,h,hp=>by
  simp at h;subst h
  simp[kids4M,eqI,hp]
 | x::l,i,k+1,s,h,hp=>by
  have:=kids4_mem (i:=i+1) (k:=k) (by simpa using h) hp
  have e:i+1+k=i+(k+1):=by omega
  rw[e] at this
  unfold kids4M
  split
  ·exact List.mem_cons_of_mem _ this
  ·exact this
theorem f_l4Needs (l:List Step) (hl:l.length≤1000) (at_:Nat) (ha:at_<l.length) (hp:parOf l at_<l.length):
  fo 124 [A (.sl 112 (l.map (sT 206))),A (vI at_)]=some (R (vB (needsM l at_))):=by
 have hpar:(l[at_]).parent=parOf l at_:=by simp[parOf,ha]
 refine orc_124 1 ?_
 cases c1:ltI (parOf l at_) 0
 ·have p1:0≤parOf l at_:=by simp[ltI] at c1;omega
  obtain⟨k,hk⟩:=Int.eq_ofNat_of_zero_le p1
  have hk2:k<l.length:=by omega
  have hkind:(l[k]).kind=kindOf l (k:Int):=by simp[kindOf,hk2]
  rw[hk] at hpar c1
  cases c2:eqI (kindOf l (k:Int)) 3
  ·simp (maxSteps:=1000000) +contextual -dsimp [Tryz.f124,ha,hpar,hk,hk2,hkind,c1,c2,needsM]
  ·have g:=f_l4Kids l hl (k:Int)
   have hm:((0+at_:Nat):Int)∈kids4M (k:Int) 0 l:=kids4_mem (k:=at_) (s:=l[at_]) (by simp[ha]) hpar
   have hpos:0<(kids4M (k:Int) 0 l).length:=List.length_pos_of_mem hm
   have hkl:(kids4M (k:Int) 0 l).length≤1000:=by
    have:∀ (l:List Step) (i:Nat),(kids4M (k:Int) i l).length≤l.length:=fun l=>by
     induction l with
     | nil=>intro i;simp[kids4M]
     | cons s l ih=>intro i;unfold kids4M;split<;>simp<;>have:=ih (i+1)<;>omega
    have:=this l 0;omega
   have hw:IntKind.i64.wrap (((kids4M (k:Int) 0 l).length:Int) - 1)=(((kids4M (k:Int) 0 l).length - 1:Nat):Int):=by rw[wrapI]<;>omega
   have hlt:(kids4M (k:Int) 0 l).length - 1<(kids4M (k:Int) 0 l).length:=by omega
   have e1:szAt (kids4M (k:Int) 0 l) (((kids4M (k:Int) 0 l).length:Int) - 1)=(kids4M (k:Int) 0 l)[(kids4M (k:Int) 0 l).length - 1]:=by
    have:(((kids4M (k:Int) 0 l).length:Int) - 1).toNat=(kids4M (k:Int) 0 l).length - 1:=by omega
    simp[szAt,this,hlt]
   have hse:sealEs (iE (kids4M (k:Int) 0 l))=iE (kids4M (k:Int) 0 l):=sealEs_map (f:=fun n=>[vI n]) (g:=fun n=>[vI n]) (fun a=>by simp[sealL,seal_]) _
   simp (maxSteps:=1000000) +contextual -dsimp [Tryz.f124,ha,hpar,hk,hk2,hkind,c1,c2,g,hse,hw,hlt,e1,needsM]
 ·simp (maxSteps:=1000000) +contextual -dsimp [Tryz.f124,ha,hpar,c1,needsM]
theorem loop55 (all:List Node) (hall:all.length≤16):∀ (rest:List Node) (i:Nat) (acc:List Int),all.drop i=rest→acc.length=i→
    (∀ (k:Nat) (n:Node),rest[k]?=some n→(ltI 2 n.kind=true→0≤n.left∧n.left<(i+k:Nat))∧(inR n.kind 3 9=true→0≤n.right∧n.right<(i+k:Nat)))→
    evLoop E (orc E) (146:Nat) (rest.length+1) (loopOf Tryz.f146 0) ⟨62,[(0,nS 206 all),(4,.ref 4 1 [] 0 acc.length),(5,vI i)],[(4,⟨1,1,false,[.own 2 (iW acc)]⟩)],2⟩=
    (if (types4M rest acc).1 = true then some (.exit 0, ⟨62, [(0, nS 206 all), (4, .ref 4 1 [] 0 (types4M rest acc).2.length), (5, vI (i + rest.length : Nat)), (13, vB false)], [(4, ⟨1, 1, false, [.own 2 (iW (types4M rest acc).2)]⟩)], 2⟩)
     else some (.ret,⟨62,[(2,.v (.slice none 0 0)),(3,vB false)],[(4,⟨1,1,false,[.own 2 (iW (types4M rest acc).2)]⟩)],2⟩))
  | [],i,acc,h,hs,ho=>by
    have hge:all.length≤i:=by simpa using h
    have hlt:ltI (i:Int) (all.length:Int)=false:=ltI_f (by omega)
    rw[loop_eq]
    simp +contextual -dsimp [Tryz.f146,hlt,types4M]
  | n::rest,i,acc,h,hs,ho=>by
    obtain⟨hi,hc,hr⟩:=drop_cons h
    have he:i+1+rest.length=i+(rest.length+1):=by omega
    have ih:=loop55 all hall rest (i+1) (acc++[is4 n.kind]) hr (by simp;omega) (fun k m hk=>by
      have:=ho (k+1) m (by simpa using hk)
      have e:i+1+k=i+(k+1):=by omega
      rw[e];exact this)
    rw[he] at ih
    obtain⟨o1,o2⟩:=ho 0 n (by simp)
    have z:ltI 2 n.kind=false∧inR n.kind 3 9=false∨ltI 2 n.kind=true∧inR n.kind 3 9=false∨ltI 2 n.kind=true∧inR n.kind 3 9=true:=by
      cases c2:ltI 2 n.kind
      · left
        refine⟨rfl,?_⟩
        simp[ltI,inR,andB,leI] at c2 ⊢;omega
      · right
        cases c3:inR n.kind 3 9<;>simp
    cases cb:bad4 n acc
    · have hm : types4M (n :: rest) acc = types4M rest (acc ++ [is4 n.kind]) := by simp [types4M, cb]
      rw[hm]
      refine evLoop_next ?_ (by simpa only[List.length_cons] using ih)
      rcases z with⟨c2,c3⟩ | ⟨c2,c3⟩ | ⟨c2,c3⟩
      · exact st55na all i _ n acc hall hi hc hs cb c2 c3
      · obtain ⟨p1, p2⟩ := o1 c2
        obtain⟨a,ha⟩:=Int.eq_ofNat_of_zero_le p1
        exact st55nb all i _ n acc hall hi hc hs cb c2 c3 a ha (by omega)
      · obtain ⟨p1, p2⟩ := o1 c2
        obtain⟨a,ha⟩:=Int.eq_ofNat_of_zero_le p1
        obtain⟨p3,p4⟩:=o2 c3
        obtain⟨b,hb⟩:=Int.eq_ofNat_of_zero_le p3
        exact st55nc all i _ n acc hall hi hc hs cb c2 c3 a b ha (by omega) hb (by omega)
    · have hm : types4M (n :: rest) acc = (false, acc) := by simp [types4M, cb]
      rw[hm,if_neg (by simp)]
      refine evLoop_out ?_ (by simp)
      rcases z with⟨c2,c3⟩ | ⟨c2,c3⟩ | ⟨c2,c3⟩
      · unfold bad4 at cb
        rw[c2,c3] at cb
        simp[orB,andB] at cb
      · obtain ⟨p1, p2⟩ := o1 c2
        obtain⟨a,ha⟩:=Int.eq_ofNat_of_zero_le p1
        exact st55rb all i _ n acc hall hi hc hs cb c2 c3 a ha (by omega)
      · obtain ⟨p1, p2⟩ := o1 c2
        obtain⟨a,ha⟩:=Int.eq_ofNat_of_zero_le p1
        obtain⟨p3,p4⟩:=o2 c3
        obtain⟨b,hb⟩:=Int.eq_ofNat_of_zero_le p3
        exact st55rc all i _ n acc hall hi hc hs cb c2 c3 a b ha (by omega) hb (by omega)
def RTy (l:List Node):Res:=if (types4M l []).1=true then ⟨.tup [.own 2 (iW (types4M l []).2),vB true],[],true⟩ else ⟨.tup [.own 2 [],vB false],[],true⟩
theorem f_l3Types (l:List Node) (hl:l.length≤16) (hg:Good l):fo 146 [A (nS 206 l)]=some (RTy l):=by
 have hlp:=loop55 l hl l 0 [] rfl rfl (fun k n hk=>by
  have hk2:k<l.length:=(List.getElem?_eq_some_iff.1 hk).1
  have he:=(List.getElem?_eq_some_iff.1 hk).2
  have:=hg k hk2
  rw[he] at this
  simpa using this)
 refine orc_146 (l.length+1) ?_
 simp -dsimp [Tryz.f146] at hlp
 unfold RTy
 cases c:(types4M l []).1
 ·rw[c] at hlp
  simp (maxSteps:=1000000) +contextual -dsimp [Tryz.f146,hlp,List.set]
 ·rw[c] at hlp
  have hc:=clean_iW (types4M l []).2
  simp (maxSteps:=1000000) +contextual -dsimp [Tryz.f146,hlp,hc,List.set]
theorem types4_len:∀ (l:List Node) (acc:List Int),(types4M l acc).1=true→(types4M l acc).2.length=acc.length+l.length
 | [],acc,_=>by simp[types4M]
 | n::l,acc,h=>by
  unfold types4M at h ⊢
  split at h
  ·simp at h
  ·rename_i hc
   rw[if_neg hc]
   rw[types4_len l _ h];simp;omega
theorem expr4_zero {l:List Node} (h:expr4M l=0):1≤l.length∧l.length≤16∧nodes4M 0 l=0:=by
 unfold expr4M at h
 split at h
 ·simp at h
 ·rename_i c1
  split at h
  ·rename_i c2;rw[h] at c2;simp[notB,eqI] at c2
  ·rename_i c2
   simp[orB,ltI] at c1
   simp[notB,eqI] at c2
   omega
theorem nodes4_good {l:List Node} (h0:nodes4M 0 l=0):Good l:=fun k hk=>by
 have hz:=nodes4_ok h0 k l[k] (by simp[hk])
 rw[Nat.zero_add] at hz
 exact l3Node_ok hz
def type4M (l:List Node):Int×Int:=
 if notB (eqI (expr4M l) 0)=true then (0,expr4M l)
 else if (types4M l []).1=true then (szAt (types4M l []).2 (l.length - 1),0) else (0,7)
theorem f_l3Type (l:List Node) (hl:l.length<2 ^ 62):fo 125 [A (nS 206 l)]=some (R2 (vI (type4M l).1) (vI (type4M l).2)):=by
 have g:=f_l3Fault l hl
 refine orc_125 1 ?_
 cases c1:eqI (expr4M l) 0
 ·simp (maxSteps:=1000000) +contextual -dsimp [Tryz.f125,g,c1,type4M]
 ·have e0:expr4M l=0:=by simpa[eqI] using c1
  obtain⟨h1,h2,h3⟩:=expr4_zero e0
  have g2:=f_l3Types l h2 (nodes4_good h3)
  unfold RTy at g2
  cases c2:(types4M l []).1
  ·rw[c2] at g2
   simp only[Bool.false_eq_true,if_false] at g2
   simp (maxSteps:=1000000) +contextual -dsimp [Tryz.f125,g,e0,c2,g2,type4M,eqI_self]
  ·rw[c2] at g2
   simp only[if_true] at g2
   have hlen:=types4_len l [] c2
   simp at hlen
   have hlt:l.length - 1<(types4M l []).2.length:=by omega
   have hlt2:l.length - 1<l.length:=by omega
   have hw:IntKind.i64.wrap ((l.length:Int) - 1)=((l.length - 1:Nat):Int):=by rw[wrapI]<;>omega
   have e1:szAt (types4M l []).2 ((l.length:Int) - 1)=(types4M l []).2[l.length - 1]:=by
    have:((l.length:Int) - 1).toNat=l.length - 1:=by omega
    simp[szAt,this,hlt]
   simp (maxSteps:=1000000) +contextual -dsimp [Tryz.f125,g,e0,c2,g2,hlen,hw,hlt2,e1,type4M,eqI_self,sealEs_iW]
def typed4M (l:List Node) (want:Int):Int:=
 if eqI l.length 0=true then 0
 else if notB (eqI (type4M l).2 0)=true then (type4M l).2
 else if notB (eqI (type4M l).1 want)=true then 7 else 0
theorem f_l4Typed (l:List Node) (hl:l.length<2 ^ 62) (want:Int):fo 97 [A (nS 206 l),A (vI want)]=some (R (vI (typed4M l want))):=by
 have g:=f_l3Type l hl
 refine orc_97 1 ?_
 cases c1:eqI l.length 0
 ·cases c2:eqI (type4M l).2 0
  ·simp (maxSteps:=1000000) +contextual -dsimp [Tryz.f97,g,c1,c2,typed4M]
  ·cases c3:eqI (type4M l).1 want
   ·simp (maxSteps:=1000000) +contextual -dsimp [Tryz.f97,g,c1,c2,c3,typed4M]
   ·simp (maxSteps:=1000000) +contextual -dsimp [Tryz.f97,g,c1,c2,c3,typed4M]
 ·simp (maxSteps:=1000000) +contextual -dsimp [Tryz.f97,c1,typed4M]
def bare4 (s:Step):Bool:=andB (andB (orB (eqI s.kind 2) (eqS s.name emp)) (orB (inR s.kind 5 8) (eqI s.arg 0))) (orB (eqI s.kind 7) (eqI s.expr.length 0))
theorem f_bare4 (s:Step):fo 117 [A (.ipt (sT 206 s))]=some (R (vB (bare4 s))):=f_l4Bare s
def par4 (s:Step) (i:Nat):Bool:=orB (andB (eqI (i:Int) 0) (notB (eqI s.parent (-1)))) (andB (ltI 0 (i:Int)) (notB (inR s.parent 0 ((i:Int) - 1))))
def line4 (l:List Step) (i:Nat):Bool:=lineM l (parOf l i) (i+1) ((i:Int) - 1)
def deep4 (l:List Step) (i:Nat):Int:=deepM l (i+2) i
theorem f_line4 (l:List Step) (hl:l.length≤1000) (i:Nat) (hi:i<l.length) (ha:Ahead l i):fo 118 [A (.sl 112 (l.map (sT 206))),A (vI i)]=some (R (vB (line4 l i))):=f_l4Line l hl i hi ha
theorem f_deep4 (l:List Step) (hl:l.length≤24) (i:Nat) (hi:i<l.length) (ha:Ahead l (i+1)):fo 119 [A (.sl 112 (l.map (sT 206))),A (vI i)]=some (R (vI (deep4 l i))):=f_l4Deep l hl i hi ha
def tail4 (s:Step):Int:=
 if notB (argM s.kind s.arg)=true then 3 else if eqI s.kind 7=true then expr4M s.expr else 0
def one4M (l:List Step) (i:Nat) (s:Step):Int:=
 if orB (notB (inR s.kind 1 8)) (notB (bare4 s))=true then 1
 else if par4 s i=true then 3
 else if andB (ltI 0 (i:Int)) (notB (line4 l i))=true then 1
 else if ltI 7 (deep4 l i)=true then 2
 else if eqI s.kind 2=true then (if notB (eqI (name4M s.name) 0)=true then name4M s.name else tail4 s)
 else tail4 s
theorem par4_ok {s:Step} {i:Nat} (h:par4 s i=false):-1≤s.parent∧s.parent<i:=by
 unfold par4 at h
 simp only[orB,andB,notB,inR,leI,ltI,eqI,Bool.or_eq_false_iff,Bool.and_eq_false_iff,Bool.not_eq_false',decide_eq_true_eq,decide_eq_false_iff_not,beq_eq_false_iff_ne,beq_iff_eq,Bool.and_eq_true] at h
 omega
theorem f_l4One (l:List Step) (hl:l.length≤24) (i:Nat) (hi:i<l.length) (ha:Ahead l i) (hn:(l[i]).name.size<2 ^ 62) (hx:(l[i]).expr.length<2 ^ 62):
  fo 95 [A (.sl 112 (l.map (sT 206))),A (vI i)]=some (R (vI (one4M l i l[i]))):=by
 have hw:IntKind.i64.wrap ((i:Int) - 1)=(i:Int) - 1:=by rw[wrapI]<;>omega
 have g1:=f_line4 l (by omega) i hi ha
 have g3:=f_l1Name (l[i]).name hn
 have g4:=f_l3Fault (l[i]).expr hx
 refine orc_95 1 ?_
 cases c1:orB (notB (inR (l[i]).kind 1 8)) (notB (bare4 (l[i])))
 ·cases c2:par4 (l[i]) i
  ·have ha2:Ahead l (i+1):=fun k hk hk2=>by
    by_cases e:k=i
    ·subst e;exact par4_ok c2
    ·exact ha k hk (by omega)
   have g2:=f_deep4 l hl i hi ha2
   have d2:=c2
   unfold par4 at d2
   cases c3:andB (ltI 0 (i:Int)) (notB (line4 l i))
   ·cases c4:ltI 7 (deep4 l i)
    ·cases c5:eqI (l[i]).kind 2
     ·cases c6:argM (l[i]).kind (l[i]).arg<;>cases c7:eqI (l[i]).kind 7
      all_goals simp (maxSteps:=1000000) +contextual -dsimp [Tryz.f95,f_l1In,f_bare4,f_l4Arg,hi,hw,g1,g2,g4,c1,c2,d2,c3,c4,c5,c6,c7,one4M,tail4]
     ·have c7:eqI (l[i]).kind 7=false:=by simp[eqI] at c5 ⊢;omega
      cases c8:eqI (name4M (l[i]).name) 0<;>cases c6:argM (l[i]).kind (l[i]).arg
      all_goals simp (maxSteps:=1000000) +contextual -dsimp [Tryz.f95,f_l1In,f_bare4,f_l4Arg,hi,hw,g1,g2,g3,c1,c2,d2,c3,c4,c5,c6,c7,c8,one4M,tail4]
    ·simp (maxSteps:=1000000) +contextual -dsimp [Tryz.f95,f_l1In,f_bare4,hi,hw,g1,g2,c1,c2,d2,c3,c4,one4M]
   ·simp (maxSteps:=1000000) +contextual -dsimp [Tryz.f95,f_l1In,f_bare4,hi,hw,g1,c1,c2,d2,c3,one4M]
  ·have d2:=c2
   unfold par4 at d2
   simp (maxSteps:=1000000) +contextual -dsimp [Tryz.f95,f_l1In,f_bare4,hi,hw,c1,c2,d2,one4M]
 ·simp (maxSteps:=1000000) +contextual -dsimp [Tryz.f95,f_l1In,f_bare4,hi,c1,one4M]
theorem seal4_iE (l:List Int):sealEs (iE l)=iE l:=sealEs_map (f:=fun n=>[vI n]) (g:=fun n=>[vI n]) (fun a=>by simp[sealL,seal_]) _
def kidsN (l:List Step) (i:Int):Int:=(kids4M i 0 l).length
def shapeOne (l:List Step) (i:Nat) (s:Step):Int:=
 if notB (manyM s.kind (kidsN l i))=true then 1
 else if notB (eqB (needsM l i) (ltI 0 s.cond.length))=true then 1
 else if ltI 0 s.cond.length=true then expr4M s.cond else 0
def shapeM (l:List Step):Nat→List Step→Int
 | _,[]=>0
 | i,s::r=>if eqI (shapeOne l i s) 0=true then shapeM l (i+1) r else shapeOne l i s
theorem loop23 (all:List Step) (hall:all.length≤24) (hp:∀ k,k<all.length→parOf all k<all.length) (hx:∀ s,s∈all→s.cond.length<2 ^ 62):∀ (rest:List Step) (i:Nat),all.drop i=rest→
  evLoop E (orc E) (96:Nat) (rest.length+1) (loopOf Tryz.f96 0) ⟨49,[(0,.sl 112 (all.map (sT 206))),(3,vI i)],[],2⟩=
  (if eqI (shapeM all i rest) 0=true then some (.exit 0,⟨49,[(0,.sl 112 (all.map (sT 206))),(3,vI (i+rest.length:Nat)),(8,vB false)],[],2⟩) else some (.ret,⟨49,[(2,vI (shapeM all i rest))],[],2⟩))
 | [],i,h=>by
  have hge:all.length≤i:=by simpa using h
  have hlt:ltI (i:Int) (all.length:Int)=false:=ltI_f (by omega)
  rw[loop_eq]
  simp +contextual -dsimp [Tryz.f96,hlt,shapeM,eqI]
 | s::rest,i,h=>by
  obtain⟨hi,hc,hr⟩:=drop_cons h
  have hlt:ltI (i:Int) (all.length:Int)=true:=ltI_t (by omega)
  have hw:IntKind.i64.wrap ((i:Int)+1)=((i+1:Nat):Int):=by rw[wrapI]<;>omega
  have he:i+1+rest.length=i+(rest.length+1):=by omega
  have g1:=f_l4Kids all (by omega) i
  have g2:=f_l4Needs all (by omega) i hi (hp i hi)
  have g3:=f_l3Fault s.cond (hx s (by rw[←hc];exact List.getElem_mem _))
  have hs:=seal4_iE (kids4M (i:Int) 0 all)
  cases c:eqI (shapeOne all i s) 0
  ·have hm:shapeM all i (s::rest)=shapeOne all i s:=by simp[shapeM,c]
   rw[hm,c,if_neg (by simp)]
   refine evLoop_out ?_ (by simp)
   unfold shapeOne kidsN at c ⊢
   cases c1:manyM s.kind (kids4M (i:Int) 0 all).length
   ·simp (maxSteps:=1000000) +contextual -dsimp [Tryz.f96,f_l4Many,hlt,hi,hc,g1,hs,c1]
   ·cases c2:eqB (needsM all i) (ltI 0 s.cond.length)
    ·simp (maxSteps:=1000000) +contextual -dsimp [Tryz.f96,f_l4Many,hlt,hi,hc,g1,hs,g2,c1,c2]
    ·cases c3:ltI 0 s.cond.length
     ·rw[c1,c2,c3] at c;simp[notB,eqI] at c
     ·have c2':=c2
      rw[c3] at c2'
      cases c4:eqI (expr4M s.cond) 0
      ·simp (maxSteps:=1000000) +contextual -dsimp [Tryz.f96,f_l4Many,hlt,hi,hc,g1,hs,g2,g3,c1,c2',c3,c4]
      ·rw[c1,c2,c3] at c;simp[notB,c4] at c
  ·have ih:=loop23 all hall hp hx rest (i+1) hr
   rw[he] at ih
   have hm:shapeM all i (s::rest)=shapeM all (i+1) rest:=by simp[shapeM,c]
   rw[hm]
   refine evLoop_next ?_ (by simpa only[List.length_cons] using ih)
   unfold shapeOne kidsN at c
   cases c1:manyM s.kind (kids4M (i:Int) 0 all).length
   ·rw[c1] at c;simp[notB,eqI] at c
   ·cases c2:eqB (needsM all i) (ltI 0 s.cond.length)
    ·rw[c1,c2] at c;simp[notB,eqI] at c
    ·cases c3:ltI 0 s.cond.length
     ·have c2':=c2
      rw[c3] at c2'
      simp (maxSteps:=1000000) +contextual -dsimp [Tryz.f96,f_l4Many,hlt,hi,hc,hw,g1,hs,g2,c1,c2',c3]
     ·have c2':=c2
      rw[c3] at c2'
      cases c4:eqI (expr4M s.cond) 0
      ·rw[c1,c2,c3] at c;simp[notB,c4] at c
      ·simp (maxSteps:=1000000) +contextual -dsimp [Tryz.f96,f_l4Many,hlt,hi,hc,hw,g1,hs,g2,g3,c1,c2',c3,c4]
theorem f_l4Shape (l:List Step) (hl:l.length≤24) (hp:∀ k,k<l.length→parOf l k<l.length) (hx:∀ s,s∈l→s.cond.length<2 ^ 62):
  fo 96 [A (.sl 112 (l.map (sT 206)))]=some (R (vI (shapeM l 0 l))):=by
 have hlp:=loop23 l hl hp hx l 0 rfl
 refine orc_96 (l.length+1) ?_
 simp -dsimp [Tryz.f96] at hlp
 cases c:eqI (shapeM l 0 l) 0
 ·rw[c] at hlp
  simp (maxSteps:=1000000) +contextual -dsimp [Tryz.f96,hlp]
 ·rw[c] at hlp
  have c':shapeM l 0 l=0:=by simpa[eqI] using c
  simp (maxSteps:=1000000) +contextual -dsimp [Tryz.f96,c',hlp]
end Go.TM.It
