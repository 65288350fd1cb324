/- What functions of the program come to, by the machine. -/
import Derived.Test.YtlmiemdojgahaaaGreatML1
set_option linter.unusedSimpArgs false
set_option linter.unusedVariables false
set_option maxHeartbeats 2000000
namespace Go.TM.Ft
open Go Go.TM Go.Proofs Go.Proofs.Tryz
set_option maxRecDepth 20000
attribute [local congr] O3
attribute [local simp] L9 M4 K0 L6 J6 L4 J8 J1 K5 I6
theorem d6v (list deep:List Int) (d:Int) (hd:deep.length≤1000000):fo 274 [Nv list (deep++[d])]=some ⟨vI d,Ol list (deep++[d]),true⟩:=by
 have hw:IntKind.i64.wrap (deep.length:Int)=(deep.length:Int):=by rw[B6]<;>omega
 have A1:(deep.length:Int)<(deep.length:Int)+1:=by omega
 refine e5w 1 ?_
 simp (maxSteps:=1000000) +contextual -dsimp [f274,hw,A1]
def C0 (at_:Int):Nat→List Step→List Int
 | _,[]=>[]
 | i,s::r=>if A6 (A3 0 (i:Int)) (A0 s.parent at_)=true then (i:Int)::C0 at_ (i+1) r else C0 at_ (i+1) r
theorem Pz (all:List Step) (B9:all.length≤1000) (at_:Int):∀ (rest:List Step) (i:Nat) (acc:List Int),all.drop i=rest→acc.length≤i→
  B7 E (orc E) (199:Nat) (rest.length+1) (C1 f199 0) ⟨30,[(1,vI at_),(5,.ref 5 1 [] 0 acc.length),(9,.sl 124 (all.map (sT 219))),(10,vI all.length),(11,vI i)],[(5,⟨1,1,false,[.own 2 (iE acc)]⟩)],2⟩=
  some (.exit 0,⟨30,[(1,vI at_),(5,.ref 5 1 [] 0 (acc++C0 at_ i rest).length),(9,.sl 124 (all.map (sT 219))),(10,vI all.length),(11,vI (i+rest.length:Nat)),(12,vB false)],[(5,⟨1,1,false,[.own 2 (iE (acc++C0 at_ i rest))]⟩)],2⟩)
 | [],i,acc,h,ha=>by
  have G5:all.length≤i:=by simpa using h
  have A1:A3 (i:Int) (all.length:Int)=false:=C9 (by omega)
  rw[D5]
  simp +contextual -dsimp [f199,A1,C0]
 | s::rest,i,acc,h,ha=>by
  obtain⟨hi,hc,hr⟩:=F6 h
  have A1:A3 (i:Int) (all.length:Int)=true:=F5 (by omega)
  have hw:IntKind.i64.wrap ((i:Int)+1)=((i+1:Nat):Int):=by rw[B6]<;>omega
  have he:i+1+rest.length=i+(rest.length+1):=by omega
  have H9:acc.length+1≤D0:=by unfold D0;omega
  cases c:A6 (A3 0 (i:Int)) (A0 s.parent at_)
  ·have ih:=Pz all B9 at_ rest (i+1) acc hr (by omega)
   rw[he] at ih
   have hm:C0 at_ i (s::rest)=C0 at_ (i+1) rest:=by simp[C0,c]
   rw[hm]
   refine D6 ?_ (by simpa only[List.length_cons] using ih)
   simp (maxSteps:=1000000) +contextual -dsimp [f199,A1,hi,hc,hw,c,List.set]
  ·have ih:=Pz all B9 at_ rest (i+1) (acc++[(i:Int)]) hr (by simp;omega)
   rw[he] at ih
   have hm:acc++C0 at_ i (s::rest)=acc++[(i:Int)]++C0 at_ (i+1) rest:=by simp[C0,c]
   rw[hm]
   refine D6 ?_ (by simpa only[List.length_cons] using ih)
   simp (maxSteps:=1000000) +contextual -dsimp [f199,A1,hi,hc,hw,c,H9,List.set]
theorem wW (l:List Step) (hl:l.length≤1000) (at_:Int):fo 199 [A (.sl 124 (l.map (sT 219))),A (vI at_)]=some ⟨.own 2 (iE (C0 at_ 0 l)),[],true⟩:=by
 have A4:=Pz l hl at_ l 0 [] rfl (by simp)
 have hc:K1 (iE (C0 at_ 0 l))=true:=by
  have:∀ (l:List Int),K1 (iE l)=true:=fun l=>by induction l<;>simp_all [K1,U9,clean]
  exact this _
 refine f3c (l.length+1) ?_
 simp -dsimp [f199] at A4
 simp (maxSteps:=1000000) +contextual -dsimp [f199,A4,hc]
def parOf (l:List Step) (at_:Nat):Int:=match l[at_]? with | some s=>s.parent | none=>0
def C2 (l:List Step) (at_:Int):Int:=match l[at_.toNat]? with | some s=>s.kind | none=>0
def oQ (l:List Step) (at_:Nat):Bool:=
 if A7 (A0 at_ 0) (A2 (A0 (C2 l (parOf l at_)) 3))=true then false
 else A2 (A0 at_ (B4 (C0 (parOf l at_) 0 l) ((C0 (parOf l at_) 0 l).length - 1)))
theorem b2e {p:Int}:∀ {l:List Step} {i k:Nat} {s:Step},l[k]?=some s→0<i+k→s.parent=p→((i+k:Nat):Int)∈C0 p i l
 | [],i,k,s,h,_,_=>by simp at h
 | x::l,i,0,s,h,h0,hp=>by
  simp at h;subst h
  have:A6 (A3 0 (i:Int)) (A0 x.parent p)=true:=by simp[A6,A3,A0,hp];omega
  simp[C0,this]
 | x::l,i,k+1,s,h,h0,hp=>by
  have:=b2e (i:=i+1) (k:=k) (by simpa using h) (by omega) hp
  have e:i+1+k=i+(k+1):=by omega
  rw[e] at this
  unfold C0
  split
  ·exact List.mem_cons_of_mem _ this
  ·exact this
theorem d0i (l:List Step) (hl:l.length≤1000) (at_:Nat) (ha:at_<l.length) (hp:0<at_→0≤parOf l at_∧parOf l at_<l.length):
  fo 278 [A (.sl 124 (l.map (sT 219))),A (vI at_)]=some (R (vB (oQ l at_))):=by
 have eD:(l[at_]).parent=parOf l at_:=by simp[parOf,ha]
 refine f0l 1 ?_
 cases c1:A0 at_ 0
 ·have h0:0<at_:=by simp[A0] at c1;omega
  obtain⟨p1,p2⟩:=hp h0
  obtain⟨k,hk⟩:=Int.eq_ofNat_of_zero_le p1
  have N6:k<l.length:=by omega
  have sF:(l[k]).kind=C2 l (k:Int):=by simp[C2,N6]
  rw[hk] at eD
  cases c2:A0 (C2 l (k:Int)) 3
  ·simp (maxSteps:=1000000) +contextual -dsimp [f278,ha,eD,hk,N6,sF,c1,c2,oQ]
  ·have g:=wW l hl (k:Int)
   have hm:((0+at_:Nat):Int)∈C0 (k:Int) 0 l:=b2e (k:=at_) (s:=l[at_]) (by simp[ha]) (by omega) eD
   have dO:0<(C0 (k:Int) 0 l).length:=List.length_pos_of_mem hm
   have hkl:(C0 (k:Int) 0 l).length≤1000:=by
    have:∀ (l:List Step) (i:Nat),(C0 (k:Int) i l).length≤l.length:=fun l=>by
     induction l with
     | nil=>intro i;simp[C0]
     | cons s l ih=>intro i;unfold C0;split<;>simp<;>have:=ih (i+1)<;>omega
    have:=this l 0;omega
   have hw:IntKind.i64.wrap (((C0 (k:Int) 0 l).length:Int) - 1)=(((C0 (k:Int) 0 l).length - 1:Nat):Int):=by rw[B6]<;>omega
   have A1:(C0 (k:Int) 0 l).length - 1<(C0 (k:Int) 0 l).length:=by omega
   have e1:B4 (C0 (k:Int) 0 l) (((C0 (k:Int) 0 l).length:Int) - 1)=(C0 (k:Int) 0 l)[(C0 (k:Int) 0 l).length - 1]:=by
    have:(((C0 (k:Int) 0 l).length:Int) - 1).toNat=(C0 (k:Int) 0 l).length - 1:=by omega
    simp[B4,this,A1]
   have N2:Q9 (iE (C0 (k:Int) 0 l))=iE (C0 (k:Int) 0 l):=iH (f:=fun n=>[vI n]) (g:=fun n=>[vI n]) (fun a=>by simp[V2,R4]) _
   simp (maxSteps:=1000000) +contextual -dsimp [f278,ha,eD,hk,N6,sF,c1,c2,g,N2,hw,A1,e1,oQ]
 ·simp (maxSteps:=1000000) +contextual -dsimp [f278,ha,eD,c1,oQ]
def aD (l:List Node) (want:Int):Int:=
 if A0 l.length 0=true then 0 else C5 (eH l).1 (if A2 (A0 (eH l).2 want)=true then 7 else 0)
theorem Xp (l:List Node) (hl:l.length<2 ^ 62) (want:Int):fo 234 [A (nS 219 l),A (vI want)]=some (R (vI (aD l want))):=by
 have g:=e5v l hl
 refine f1i 1 ?_
 cases c1:A0 l.length 0
 ·simp (maxSteps:=1000000) +contextual -dsimp [f234,g,nR,Y8,c1,aD,List.set]
 ·simp (maxSteps:=1000000) +contextual -dsimp [f234,c1,aD]
def jI (l:List Step) (at_:Nat):Bool:=match l[at_]? with | some s=>A3 0 s.cond.length | none=>false
def condOf (l:List Step) (at_:Nat):List Node:=match l[at_]? with | some s=>s.cond | none=>[]
def uG (l:List Step) (at_:Nat):Int:=
 C5 (if A2 (A5 (C0 at_ 0 l).length (T3 (C2 l at_)).1 (T3 (C2 l at_)).2)=true then 1 else 0) (if A2 (W4 (jI l at_) (oQ l at_))=true then 1 else 0)
def condFaultM (l:List Step) (at_:Nat):Int:=
 if A7 (A2 (A0 (uG l at_) 0)) (A2 (jI l at_))=true then uG l at_ else bI (condOf l at_)
theorem e2l (l:List Step) (hl:l.length≤1000) (at_:Nat) (ha:at_<l.length) (hp:0<at_→0≤parOf l at_∧parOf l at_<l.length) (hc:(condOf l at_).length<2 ^ 62):
  fo 233 [A (.sl 124 (l.map (sT 219))),A (vI at_)]=some (R (vI (condFaultM l at_))):=by
 have g1:=wW l hl at_
 have g2:=d0i l hl at_ ha hp
 have g3:=My (condOf l at_) hc
 have N2:Q9 (iE (C0 at_ 0 l))=iE (C0 at_ 0 l):=iH (f:=fun n=>[vI n]) (g:=fun n=>[vI n]) (fun a=>by simp[V2,R4]) _
 have e1:(l[at_]).kind=C2 l at_:=by simp[C2,ha]
 have e2:A3 0 (l[at_]).cond.length=jI l at_:=by simp[jI,ha]
 have e3:(l[at_]).cond=condOf l at_:=by simp[condOf,ha]
 have e4:A3 0 (condOf l at_).length=jI l at_:=by simp[jI,condOf,ha]
 refine d5h 1 ?_
 simp (maxSteps:=1000000) +contextual -dsimp [f233,d8x,H5,nR,Y8,g1,g2,g3,N2,ha,e1,e3,e4,condFaultM,uG,List.set]
 rfl
abbrev d9h (list deep:List Int):Arg:=⟨.ptr 1 0 [] 0,some (pR 0 1 list deep)⟩
abbrev e4g (list deep:List Int):List (Nat×List T):=[(1,[.own 2 (iE list),.own 2 (iE deep)])]
def ci (b:Bool) (c:Int):Int:=if b then c else 0
theorem O4 (b:Bool) (c:Int):fo 114 [A (vB b),A (vI c)]=some (R (vI (ci b c))):=nR b c
def iF (s:Step):Bool:=
 A7 (A7 (A6 (A2 (kG s.name cU)) (A2 (A0 s.kind 2))) (A6 (A2 (A0 s.arg 0)) (A0 (X9 s.kind).2 0))) (A6 (A3 0 s.expr.length) (A2 (A0 s.kind 7)))
def cY (s:Step) (list deep:List Int):Int:=
 C5 (ci (A7 (A2 (A5 s.kind 1 8)) (iF s)) 1) (R0 list deep s.parent).1
def rS (s:Step):Int:=
 if A0 s.kind 2=true then vQ s.name
 else if A0 s.kind 7=true then C5 (ci (A2 (A5 s.arg (X9 s.kind).1 (X9 s.kind).2)) 3) (bI s.expr)
 else ci (A2 (A5 s.arg (X9 s.kind).1 (X9 s.kind).2)) 3
def aI (s:Step) (list deep:List Int):Int:=
 if A2 (A0 (cY s list deep) 0)=true then cY s list deep
 else if A2 (A0 (ci (A3 7 (bE deep s.parent)) 2) 0)=true then ci (A3 7 (bE deep s.parent)) 2
 else rS s
theorem d2c (s:Step) (list deep:List Int) (Gx:-9223372036854775808≤s.parent) (Ha:s.parent<9223372036854775808) (ht:Tree list) (hl:list.length≤1000) (hd:deep.length=list.length)
  (hv:∀ d,d∈deep→0≤d∧d≤1000000) (hn:s.name.size<2 ^ 62) (hx:s.expr.length<2 ^ 62):
  fo 232 [A (.agg (sT 219 s)),d9h list deep]=some ⟨vI (aI s list deep),e4g (R0 list deep s.parent).2.1 (R0 list deep s.parent).2.2,true⟩:=by
 have g1:=f2g list deep s.parent Gx Ha ht hl hd hv
 have g3:=d0h s.name hn
 have g4:=My s.expr hx
 refine e4b 1 ?_
 cases c1:A0 (cY s list deep) 0
 ·simp only[cY,iF,cU] at c1
  simp (maxSteps:=1000000) +contextual -dsimp [f232,Bh,H5,O4,Y8,g1,c1,aI,cY,iF,cU,List.set]
 ·have hz:cY s list deep=0:=by simpa[A0] using c1
  have mG:R0 list deep s.parent=(0,list++[s.parent],deep++[bE deep s.parent]):=by
   have h1:=(P9 hz).2
   unfold R0 at h1 ⊢
   split at h1
   ·simp at h1
   ·rename_i d1
    rw[if_neg d1]
    split at h1
    ·simp at h1
    ·rename_i d2
     rw[if_neg d2]
  have g2:=d6v (list++[s.parent]) deep (bE deep s.parent) (by omega)
  simp only[Nv,Ol,pR,iE,List.map_append,List.map_cons,List.map_nil] at g2
  simp only[cY,iF,cU] at c1
  rw[mG] at g1 c1
  simp only at g1 c1
  cases c2:A0 (ci (A3 7 (bE deep s.parent)) 2) 0
  rotate_left
  ·cases c3:A0 s.kind 2
   ·cases c4:A0 s.kind 7
    ·simp (maxSteps:=1000000) +contextual -dsimp [f232,Bh,H5,O4,Y8,g1,g2,c2,c3,c4,mG,aI,rS,cY,iF,cU,List.set]
    ·simp (maxSteps:=1000000) +contextual -dsimp [f232,Bh,H5,O4,Y8,g1,g2,g4,c2,c3,c4,mG,aI,rS,cY,iF,cU,List.set]
   ·simp (maxSteps:=1000000) +contextual -dsimp [f232,Bh,H5,O4,Y8,g1,g2,g3,c2,c3,mG,aI,rS,cY,iF,cU,List.set]
  ·simp (maxSteps:=1000000) +contextual -dsimp [f232,Bh,H5,O4,Y8,g1,g2,c1,c2,mG,aI,cY,iF,cU,List.set]
structure Chart where
 status:Int
 now:Int
 vars:List Int
 acts:List Int
 dues:List Int
structure Inst where
 proc:Int
 chart:Chart
structure Claim where
 inst:Int
 step:Int
 user:Int
structure Engine where
 procs:List (List Step)
 insts:List Inst
 now:Int
structure Desk where
 eng:Engine
 claims:List Claim
abbrev iS (l:List Int):T:=.sl 2 (iE l)
abbrev cT (c:Chart):List T:=[vI c.status,vI c.now,iS c.vars,iS c.acts,iS c.dues]
abbrev xT (x:Inst):List T:=[vI x.proc,vI x.chart.status,vI x.chart.now,iS x.chart.vars,iS x.chart.acts,iS x.chart.dues]
abbrev pT (s n:TypeId) (p:List Step):List T:=[.sl s (p.map (sT n))]
abbrev kT (c:Claim):List T:=[vI c.inst,vI c.step,vI c.user]
theorem Bi (n:Int) (m:Nat) (hm:m<2 ^ 62):fo 115 [A (vI n),A (vI m)]=some (R (vB (A5 n 0 ((m:Int) - 1)))):=by
 have hw:IntKind.i64.wrap ((m:Int) - 1)=(m:Int) - 1:=by rw[B6]<;>omega
 refine e5a 1 ?_
 simp (maxSteps:=1000000) +contextual -dsimp [f115,H5,hw]
theorem yK (n:Int):fo 201 [A (vI n)]=some (R (vB (A5 n 1 9))):=by
 refine e9m 1 ?_
 simp (maxSteps:=1000000) +contextual -dsimp [f201,H5]
theorem oJ (n:Int):fo 169 [A (vI n)]=some (R (vB (A5 n 0 1000000))):=by
 refine d2q 1 ?_
 simp (maxSteps:=1000000) +contextual -dsimp [f169,H5]
theorem f0b (n:Int):fo 288 [A (vI n)]=some (R (vB false)):=by
 refine d1a 1 ?_
 simp (maxSteps:=1000000) +contextual -dsimp [f288,D2,A2]
def tX (a b:Int):Int:=if A3 a b=true then -1 else if A3 b a=true then 1 else 0
theorem e3v (a b:Int):fo 253 [A (vI a),A (vI b)]=some (R (vI (tX a b))):=by
 refine d4d 1 ?_
 cases h:A3 a b<;>cases h2:A3 b a <;>
 simp (maxSteps:=1000000) +contextual -dsimp [f253,f0b,h,h2,tX]
theorem d4j (a b:Int):fo 252 [A (.sl 3 [[vI a],[vI b]])]=some (R (vI (C5 a b))):=by
 have h0:A3 0 2=true:=rfl
 have h1:A3 1 2=true:=rfl
 have h2:A3 2 2=false:=rfl
 have w1:IntKind.i64.wrap 1=1:=rfl
 have w2:IntKind.i64.wrap 2=2:=rfl
 refine f0v 4 ?_
 cases ha:A0 a 0
 ·simp -dsimp [f252,D5,h0,ha,C5]
 ·cases hb:A0 b 0
  ·simp -dsimp [f252,D5,h0,h1,w1,ha,hb,C5]
  ·simp -dsimp [f252,D5,h0,h1,h2,w1,w2,ha,hb,C5]
   simp[A0] at hb;exact hb.symm
theorem e6l (a b:Claim):fo 204 [A (.agg (kT a)),A (.agg (kT b))]=some (R (vI (C5 (tX a.inst b.inst) (tX a.step b.step)))):=by
 refine d1k 1 ?_
 simp (maxSteps:=1000000) +contextual -dsimp [f204,e3v,d4j,List.set]
theorem d9l (x:Int):fo 236 [A (vI x)]=some (R (vB (A2 (A5 x (-1000000) 1000000)))):=by
 refine d8w 1 ?_
 simp (maxSteps:=1000000) +contextual -dsimp [f236,H5]
theorem d5i (x m:Int):fo 283 [A (vI x),A (.ipt [vI m])]=some (R (vB (A2 (A5 x 0 m)))):=by
 refine e1q 1 ?_
 simp (maxSteps:=1000000) +contextual -dsimp [f283,H5]
def G8 (p:Int→Bool):Nat→List Int→Int
 | _,[]=>-1
 | i,x::r=>if p x=true then i else G8 p (i+1) r
theorem zW {p:Int→Bool}:∀ {l:List Int} {i:Nat},A3 (G8 p i l) 0=true→G8 p i l=-1
 | [],i,_=>rfl
 | x::l,i,h=>by
  unfold G8 at h ⊢
  split at h
  ·simp[A3] at h;omega
  ·rename_i c;rw[if_neg c];exact zW h
def badV (x:Int):Bool:=A2 (A5 x (-1000000) 1000000)
def cR (m x:Int):Bool:=A2 (A5 x 0 m)
theorem d9r (x:Int):fo 236 [A (vI x)]=some (R (vB (badV x))):=d9l x
theorem f3f (m x:Int):fo 283 [A (vI x),A (.ipt [vI m])]=some (R (vB (cR m x))):=d5i x m
theorem a5e (all:List Int) (B9:all.length<2 ^ 62):∀ (rest:List Int) (i:Nat),all.drop i=rest→
    B7 E (orc E) (280:Nat) (rest.length+1) (C1 f280 0) ⟨19,[(0,iS all),(1,.v (.func (.func (236:Nat)) #[] #[])),(7,vI all.length),(8,vI i)],[],2⟩=
    (if A3 (G8 badV i rest) 0 = true then some (.exit 0, ⟨19, [(0, iS all), (1, .v (.func (.func (236 : Nat)) #[] #[])), (7, vI all.length), (8, vI (i + rest.length : Nat)), (9, vB false)], [], 2⟩)
     else some (.ret,⟨19,[(4,vI (G8 badV i rest))],[],2⟩))
  | [],i,h=>by
    have G5:all.length≤i:=by simpa using h
    have A1:A3 (i:Int) (all.length:Int)=false:=C9 (by omega)
    have h1:A3 (-1) 0=true:=rfl
    rw[D5]
    simp +contextual -dsimp [f280,A1,G8,h1]
  | x::rest,i,h=>by
    obtain⟨hi,hc,hr⟩:=F6 h
    have A1:A3 (i:Int) (all.length:Int)=true:=F5 (by omega)
    have hw:IntKind.i64.wrap ((i:Int)+1)=((i+1:Nat):Int):=by rw[B6]<;>omega
    have he:i+1+rest.length=i+(rest.length+1):=by omega
    have h0:A3 (i:Int) 0=false:=C9 (by omega)
    have g:=d9r x
    cases c:badV x
    · have ih := a5e all B9 rest (i + 1) hr
      rw[he] at ih
      have hm:G8 badV i (x::rest)=G8 badV (i+1) rest:=by simp[G8,c]
      rw[hm]
      rw[c] at g
      refine D6 ?_ (by simpa only[List.length_cons] using ih)
      simp (maxSteps:=1000000) +contextual -dsimp [f280,A1,hi,hc,hw,g]
    · have hm : G8 badV i (x :: rest) = i := by simp [G8, c]
      rw[hm,h0,if_neg (by simp)]
      rw[c] at g
      refine G3 ?_ (by simp)
      simp (maxSteps:=1000000) +contextual -dsimp [f280,A1,hi,hc,g]
theorem c2r {m:Int} (all:List Int) (B9:all.length<2 ^ 62):∀ (rest:List Int) (i:Nat),all.drop i=rest→
    B7 E (orc E) (280:Nat) (rest.length+1) (C1 f280 0) ⟨19,[(0,iS all),(1,.clo (283:Nat) [.ipt [vI m]]),(7,vI all.length),(8,vI i)],[],2⟩=
    (if A3 (G8 (cR m) i rest) 0 = true then some (.exit 0, ⟨19, [(0, iS all), (1, .clo (283 : Nat) [.ipt [vI m]]), (7, vI all.length), (8, vI (i + rest.length : Nat)), (9, vB false)], [], 2⟩)
     else some (.ret,⟨19,[(4,vI (G8 (cR m) i rest))],[],2⟩))
  | [],i,h=>by
    have G5:all.length≤i:=by simpa using h
    have A1:A3 (i:Int) (all.length:Int)=false:=C9 (by omega)
    have h1:A3 (-1) 0=true:=rfl
    rw[D5]
    simp +contextual -dsimp [f280,A1,G8,h1]
  | x::rest,i,h=>by
    obtain⟨hi,hc,hr⟩:=F6 h
    have A1:A3 (i:Int) (all.length:Int)=true:=F5 (by omega)
    have hw:IntKind.i64.wrap ((i:Int)+1)=((i+1:Nat):Int):=by rw[B6]<;>omega
    have he:i+1+rest.length=i+(rest.length+1):=by omega
    have h0:A3 (i:Int) 0=false:=C9 (by omega)
    have g:=f3f m x
    cases c:(cR m) x
    · have ih := c2r (m := m) all B9 rest (i + 1) hr
      rw[he] at ih
      have hm:G8 (cR m) i (x::rest)=G8 (cR m) (i+1) rest:=by simp[G8,c]
      rw[hm]
      rw[c] at g
      refine D6 ?_ (by simpa only[List.length_cons] using ih)
      simp (maxSteps:=1000000) +contextual -dsimp [f280,A1,hi,hc,hw,g]
    · have hm : G8 (cR m) i (x :: rest) = i := by simp [G8, c]
      rw[hm,h0,if_neg (by simp)]
      rw[c] at g
      refine G3 ?_ (by simp)
      simp (maxSteps:=1000000) +contextual -dsimp [f280,A1,hi,hc,g]
theorem e1x (l:List Int) (hl:l.length<2 ^ 62):fo 280 [A (iS l),A (.v (.func (.func (236:Nat)) #[] #[]))]=some (R (vI (G8 badV 0 l))):=by
 have A4:=a5e l hl l 0 rfl
 refine Jk (l.length+1) ?_
 simp -dsimp [f280] at A4
 cases c:A3 (G8 badV 0 l) 0
 ·simp (maxSteps:=1000000) +contextual -dsimp [f280,A4,c]
 ·have e:G8 badV 0 l=-1:=zW c
  rw[e] at A4 ⊢
  simp (maxSteps:=1000000) +contextual -dsimp [f280,A4]
theorem e3f (m:Int) (l:List Int) (hl:l.length<2 ^ 62):fo 280 [A (iS l),A (.clo (283:Nat) [.ipt [vI m]])]=some (R (vI (G8 (cR m) 0 l))):=by
 have A4:=c2r (m:=m) l hl l 0 rfl
 refine Jk (l.length+1) ?_
 simp -dsimp [f280] at A4
 cases c:A3 (G8 (cR m) 0 l) 0
 ·simp (maxSteps:=1000000) +contextual -dsimp [f280,A4,c]
 ·have e:G8 (cR m) 0 l=-1:=zW c
  rw[e] at A4 ⊢
  simp (maxSteps:=1000000) +contextual -dsimp [f280,A4]
def aH (p:Int→Bool) (l:List Int):Bool:=B5 0 (G8 p 0 l)
theorem e5u (l:List Int) (hl:l.length<2 ^ 62):fo 235 [A (iS l),A (.v (.func (.func (236:Nat)) #[] #[]))]=some (R (vB (aH badV l))):=by
 have g:=e1x l hl
 refine Qf 1 ?_
 simp (maxSteps:=1000000) +contextual -dsimp [f235,g,aH]
theorem e9a (m:Int) (l:List Int) (hl:l.length<2 ^ 62):fo 235 [A (iS l),A (.clo (283:Nat) [.ipt [vI m]])]=some (R (vB (aH (cR m) l))):=by
 have g:=e3f m l hl
 refine Qf 1 ?_
 simp (maxSteps:=1000000) +contextual -dsimp [f235,g,aH]
theorem f1g (l:List Int) (hl:l.length<2 ^ 62) (m:Int):fo 244 [A (iS l),A (vI m)]=some (R (vB (A2 (aH (cR m) l)))):=by
 have g:=e9a m l hl
 refine d0v 1 ?_
 simp (maxSteps:=1000000) +contextual -dsimp [f244,g]
def W6 (l:List Int):Int:=C5 (ci (A2 (A0 l.length 4)) 2) (ci (aH badV l) 3)
theorem c7h (l:List Int) (hl:l.length<2 ^ 62):fo 168 [A (iS l)]=some (R (vI (W6 l))):=by
 have g:=e5u l hl
 refine f0p 1 ?_
 simp (maxSteps:=1000000) +contextual -dsimp [f168,g,O4,Y8,W6,List.set]
theorem d9j (a b c d:Int):fo 78 [A (.sl 2 [[vI a],[vI b],[vI c],[vI d]])]=some (R (vI (C5 a (C5 b (C5 c d))))):=by
 have h0:A3 0 4=true:=rfl
 have h1:A3 1 4=true:=rfl
 have h2:A3 2 4=true:=rfl
 have h3:A3 3 4=true:=rfl
 have h4:A3 4 4=false:=rfl
 have w1:IntKind.i64.wrap 1=1:=rfl
 have w2:IntKind.i64.wrap 2=2:=rfl
 have w3:IntKind.i64.wrap 3=3:=rfl
 have w4:IntKind.i64.wrap 4=4:=rfl
 refine Nz 6 ?_
 cases ha:A0 a 0
 ·simp -dsimp [f78,D5,h0,ha,C5]
 ·cases hb:A0 b 0
  ·simp -dsimp [f78,D5,h0,h1,w1,ha,hb,C5]
  ·cases hc:A0 c 0
   ·simp -dsimp [f78,D5,h0,h1,h2,w1,w2,ha,hb,hc,C5]
   ·cases hd:A0 d 0
    ·simp -dsimp [f78,D5,h0,h1,h2,h3,w1,w2,w3,ha,hb,hc,hd,C5]
    ·simp -dsimp [f78,D5,h0,h1,h2,h3,h4,w1,w2,w3,w4,ha,hb,hc,hd,C5]
     simp[A0] at hd;exact hd.symm
abbrev bT (l:List Step) (c:Chart):List T:=[.sl 124 (l.map (sT 219)),vI c.status,vI c.now,iS c.vars,iS c.acts,iS c.dues]
def G1 (acts:List Int) (act:Int):List Int→Nat→Nat
 | [],n=>n
 | k::r,n=>G1 acts act r (if A0 (B4 acts k) act=true then n+1 else n)
theorem pB (acts:List Int) (act:Int):∀ (l:List Int) (n:Nat),G1 acts act l n≤n+l.length
 | [],n=>by simp[G1]
 | k::l,n=>by
  unfold G1
  rw[List.length_cons]
  split
  ·have:=pB acts act l (n+1);omega
  ·have:=pB acts act l n;omega
theorem bF {l:List Int} {k:Nat} (h:k<l.length):B4 l (k:Int)=l[k]:=by simp[B4,h]
theorem Lx (l:List Step) (c:Chart) (act:Int) (hb:c.acts.length<2 ^ 62) (all:List Int) (B9:all.length≤1000) (hk:∀ k,k∈all→∃ a:Nat,k=a∧a<c.acts.length):∀ (rest:List Int) (i n:Nat),all.drop i=rest→n≤i→
  B7 E (orc E) (302:Nat) (rest.length+1) (C1 f302 0) ⟨30,[(0,.ipt (bT l c)),(2,vI act),(7,vI n),(10,iS all),(11,vI all.length),(12,vI i)],[],2⟩=
  some (.exit 0,⟨30,[(0,.ipt (bT l c)),(2,vI act),(7,vI (G1 c.acts act rest n)),(10,iS all),(11,vI all.length),(12,vI (i+rest.length:Nat)),(13,vB false)],[],2⟩)
 | [],i,n,h,hn=>by
  have G5:all.length≤i:=by simpa using h
  have A1:A3 (i:Int) (all.length:Int)=false:=C9 (by omega)
  rw[D5]
  simp +contextual -dsimp [f302,A1,G1]
 | x::rest,i,n,h,hn=>by
  obtain⟨hi,hc,hr⟩:=F6 h
  obtain⟨a,rfl,ha⟩:=hk x (by rw[←hc];exact List.getElem_mem _)
  have A1:A3 (i:Int) (all.length:Int)=true:=F5 (by omega)
  have hw:IntKind.i64.wrap ((i:Int)+1)=((i+1:Nat):Int):=by rw[B6]<;>omega
  have Q2:IntKind.i64.wrap ((n:Int)+1)=((n+1:Nat):Int):=by rw[B6]<;>omega
  have he:i+1+rest.length=i+(rest.length+1):=by omega
  have hs:=bF ha
  cases q:A0 (c.acts[a]) act
  ·have ih:=Lx l c act hb all B9 hk rest (i+1) n hr (by omega)
   rw[he] at ih
   have hm:G1 c.acts act ((a:Int)::rest) n=G1 c.acts act rest n:=by simp[G1,hs,q]
   rw[hm]
   refine D6 ?_ (by simpa only[List.length_cons] using ih)
   simp (maxSteps:=1000000) +contextual -dsimp [f302,A1,hi,hc,hw,ha,q]
  ·have ih:=Lx l c act hb all B9 hk rest (i+1) (n+1) hr (by omega)
   rw[he] at ih
   have hm:G1 c.acts act ((a:Int)::rest) n=G1 c.acts act rest (n+1):=by simp[G1,hs,q]
   rw[hm]
   refine D6 ?_ (by simpa only[List.length_cons] using ih)
   simp (maxSteps:=1000000) +contextual -dsimp [f302,A1,hi,hc,hw,Q2,ha,q]
theorem b9j (l:List Step) (c:Chart) (act:Int) (hb:c.acts.length<2 ^ 62) (all:List Int) (B9:all.length≤1000) (hk:∀ k,k∈all→∃ a:Nat,k=a∧a<c.acts.length):
  fo 302 [A (.ipt (bT l c)),A (iS all),A (vI act)]=some (R (vI (G1 c.acts act all 0:Nat))):=by
 have A4:=Lx l c act hb all B9 hk all 0 0 rfl (Nat.le_refl _)
 refine e0b (all.length+1) ?_
 simp -dsimp [f302] at A4
 simp (maxSteps:=1000000) +contextual -dsimp [f302,A4]
end Go.TM.Ft
namespace Go.TM.Ft
open Go Go.TM Go.Proofs Go.Proofs.Tryz
set_option maxRecDepth 20000
attribute [local congr] O3
abbrev iW (l:List Int):List (List T):=l.map fun n=>[vI n]
abbrev Oe (out:List Int):Arg:=⟨.ref 2 0 [] 0 out.length,some ⟨0,0,false,[.own 2 (iW out)]⟩⟩
def N7 (l:List Node):Nat→Nat→List Int→List Int
 | 0,_,out=>out
 | f+1,at_,out=>
  match l[at_]? with
  | none=>out
  | some n=>
   if A3 16 out.length=true then out
   else if A3 2 n.kind=true then
    (if A5 n.kind 3 9=true then N7 l f n.right.toNat (N7 l f n.left.toNat out) else N7 l f n.left.toNat out)++[(at_:Int)]
   else out++[(at_:Int)]
def kB (l:List Node):Prop:=∀ (k:Nat) (h:k<l.length),(A3 2 (l[k]).kind=true→0≤(l[k]).left∧(l[k]).left<k)∧(A5 (l[k]).kind 3 9=true→0≤(l[k]).right∧(l[k]).right<k)
theorem Gm (l:List Node):∀ (f at_:Nat) (out:List Int),(N7 l f at_ out).length+1≤out.length+2 ^ f
 | 0,at_,out=>by simp[N7]
 | f+1,at_,out=>by
  have h1:=fun a o=>Gm l f a o
  have h2:0<2 ^ f:=Nat.pow_pos (by omega)
  have h3:2 ^ (f+1)=2*2 ^ f:=by rw[Nat.pow_succ];omega
  unfold N7
  split
  ·omega
  ·rename_i n _
   split
   ·omega
   ·split
    ·split
     ·have:=h1 n.right.toNat (N7 l f n.left.toNat out)
      have:=h1 n.left.toNat out
      simp only[List.length_append,List.length_cons,List.length_nil]
      omega
     ·have:=h1 n.left.toNat out
      simp only[List.length_append,List.length_cons,List.length_nil]
      omega
    ·simp only[List.length_append,List.length_cons,List.length_nil]
     omega
theorem yH (l:List Int):K1 (iW l)=true:=by induction l<;>simp_all [K1,U9,clean]
theorem Ot (l:List Node) (hg:kB l):∀ (f at_:Nat) (out:List Int),at_<f→at_<l.length→f≤16→out.length≤1000000→
  fo 295 [A (nS 219 l),A (vI at_),Oe out]=some ⟨.own 2 (iW (N7 l f at_ out)),[],true⟩
 | 0,at_,out,h,_,_,_=>by omega
 | f+1,at_,out,h,hl,hf,ho=>by
  obtain⟨g1,g2⟩:=hg at_ hl
  have hn:l[at_]?=some l[at_]:=by simp[hl]
  have H9:out.length+1≤D0:=by unfold D0;omega
  refine d5l 1 ?_
  unfold N7
  rw[hn]
  simp only
  cases c1:A3 16 out.length
  ·cases c2:A3 2 (l[at_]).kind
   ·have c3:A5 (l[at_]).kind 3 9=false:=by simp[A3,A5,A6,B5] at c2 ⊢;omega
    have hc:K1 (iW out++[[vI at_]])=true:=by simpa using yH (out++[(at_:Int)])
    simp (maxSteps:=1000000) +contextual -dsimp [f295,pQ,hl,H9,c1,c2,c3,hc]
   ·obtain⟨p1,p2⟩:=g1 c2
    obtain⟨a,ha⟩:=Int.eq_ofNat_of_zero_le p1
    have ga:=Ot l hg f a out (by omega) (by omega) (by omega) ho
    have la:=Gm l f a out
    have l16:out.length≤16:=by simp[A3] at c1;omega
    have hpow:2 ^ f≤32768:=by
     have:=Nat.pow_le_pow_right (n:=2) (by omega) (show f≤15 by omega)
     omega
    have ta:(l[at_]).left.toNat=a:=by omega
    cases c3:A5 (l[at_]).kind 3 9
    ·have aO:(N7 l f a out).length+1≤D0:=by unfold D0;omega
     have hc:K1 (iW (N7 l f a out)++[[vI at_]])=true:=by simpa using yH (N7 l f a out++[(at_:Int)])
     simp (maxSteps:=1000000) +contextual -dsimp [f295,pQ,hl,aO,c1,c2,c3,ha,ga,hc]
    ·obtain⟨p3,p4⟩:=g2 c3
     obtain⟨b,hb⟩:=Int.eq_ofNat_of_zero_le p3
     have gb:=Ot l hg f b (N7 l f a out) (by omega) (by omega) (by omega) (by omega)
     have lb:=Gm l f b (N7 l f a out)
     have aO:(N7 l f b (N7 l f a out)).length+1≤D0:=by unfold D0;omega
     have hc:K1 (iW (N7 l f b (N7 l f a out))++[[vI at_]])=true:=by simpa using yH (N7 l f b (N7 l f a out)++[(at_:Int)])
     simp (maxSteps:=1000000) +contextual -dsimp [f295,pQ,hl,aO,c1,c2,c3,ha,hb,ga,gb,hc]
  ·have hc:=yH out
   simp (maxSteps:=1000000) +contextual -dsimp [f295,c1,hc]
attribute [local simp] L9 M4 K0 L6 J6 L4 J8 J1 K5 I6
def bN:Nat→List Node→Int
 | _,[]=>0
 | i,n::r=>if A2 (A0 (gL n i) 0)=true then gL n i else bN (i+1) r
theorem b1i (all:List Node) (B9:all.length≤16):∀ (rest:List Node) (i:Nat),all.drop i=rest→
  B7 E (orc E) (267:Nat) (rest.length+1) (C1 f267 0) ⟨51,[(0,nS 219 all),(3,vI i)],[],2⟩=
  (if A0 (bN i rest) 0=true then some (.exit 0,⟨51,[(0,nS 219 all),(3,vI (i+rest.length:Nat)),(18,vB false)],[],2⟩) else some (.ret,⟨51,[(2,vI (bN i rest))],[],2⟩))
 | [],i,h=>by
  have G5:all.length≤i:=by simpa using h
  have A1:A3 (i:Int) (all.length:Int)=false:=C9 (by omega)
  rw[D5]
  simp +contextual -dsimp [f267,A1,bN,A0]
 | n::rest,i,h=>by
  obtain⟨hi,hc,hr⟩:=F6 h
  have A1:A3 (i:Int) (all.length:Int)=true:=F5 (by omega)
  have hw:IntKind.i64.wrap ((i:Int)+1)=((i+1:Nat):Int):=by rw[B6]<;>omega
  have he:i+1+rest.length=i+(rest.length+1):=by omega
  have g:=e1n n i (by omega) (by omega)
  cases c:A0 (gL n i) 0
  ·have hm:bN i (n::rest)=gL n i:=by simp[bN,c,A2]
   rw[hm,c,if_neg (by simp)]
   refine G3 ?_ (by simp)
   simp (maxSteps:=1000000) +contextual -dsimp [f267,A1,hi,hc,g,c]
  ·have ih:=b1i all B9 rest (i+1) hr
   rw[he] at ih
   have hm:bN i (n::rest)=bN (i+1) rest:=by simp[bN,c,A2]
   rw[hm]
   refine D6 ?_ (by simpa only[List.length_cons] using ih)
   simp (maxSteps:=1000000) +contextual -dsimp [f267,A1,hi,hc,hw,g,c]
def fQ:Nat→List Int→Bool
 | _,[]=>true
 | i,x::r=>if A0 x i=true then fQ (i+1) r else false
theorem c8n (l:List Node) (all:List Int) (B9:all.length≤1000000):∀ (rest:List Int) (i:Nat),all.drop i=rest→
  B7 E (orc E) (267:Nat) (rest.length+1) (C1 f267 1) ⟨51,[(5,.sl 2 (iW all)),(6,vI i)],[],2⟩=
  (if fQ i rest=true then some (.exit 2,⟨51,[(5,.sl 2 (iW all)),(6,vI (i+rest.length:Nat)),(42,vB false)],[],2⟩) else some (.ret,⟨51,[(2,vI 1)],[],2⟩))
 | [],i,h=>by
  have G5:all.length≤i:=by simpa using h
  have A1:A3 (i:Int) (all.length:Int)=false:=C9 (by omega)
  rw[D5]
  simp +contextual -dsimp [f267,A1,fQ]
 | x::rest,i,h=>by
  obtain⟨hi,hc,hr⟩:=F6 h
  have A1:A3 (i:Int) (all.length:Int)=true:=F5 (by omega)
  have hw:IntKind.i64.wrap ((i:Int)+1)=((i+1:Nat):Int):=by rw[B6]<;>omega
  have he:i+1+rest.length=i+(rest.length+1):=by omega
  cases c:A0 x i
  ·have hm:fQ i (x::rest)=false:=by simp[fQ,c]
   rw[hm,if_neg (by simp)]
   refine G3 ?_ (by simp)
   simp (maxSteps:=1000000) +contextual -dsimp [f267,A1,hi,hc,c]
  ·have ih:=c8n l all B9 rest (i+1) hr
   rw[he] at ih
   have hm:fQ i (x::rest)=fQ (i+1) rest:=by simp[fQ,c]
   rw[hm]
   refine D6 ?_ (by simpa only[List.length_cons] using ih)
   simp (maxSteps:=1000000) +contextual -dsimp [f267,A1,hi,hc,hw,c]
theorem a4q {n:Node} {i:Nat} (h:gL n i=0):(A3 2 n.kind=true→0≤n.left∧n.left<i)∧(A5 n.kind 3 9=true→0≤n.right∧n.right<i):=by
 unfold gL at h
 split at h
 ·simp at h
 ·split at h
  ·simp at h
  ·split at h
   ·simp at h
   ·split at h
    ·simp at h
    ·rename_i hc
     simp only[A7,A6,A2,A5,B5,Bool.or_eq_true,Bool.and_eq_true,Bool.not_eq_true',decide_eq_true_eq,decide_eq_false_iff_not,Bool.and_eq_false_iff,not_or,not_and] at hc
     refine⟨fun h2=>?_,fun h3=>?_⟩
     ·have g2:2<n.kind:=by simpa[A3] using h2
      have:=hc.1 (by omega)
      omega
     ·have g3:3≤n.kind∧n.kind≤9:=by simpa[A5,A6,B5] using h3
      have:=hc.2 g3
      omega
theorem Ky:∀ {l:List Node} {i:Nat},bN i l=0→∀ (k:Nat) (n:Node),l[k]?=some n→gL n (i+k:Nat)=0
 | [],i,_,k,n,h=>by simp at h
 | x::l,i,hz,k,n,h=>by
  unfold bN at hz
  split at hz
  ·rename_i hc
   rw[hz] at hc;simp[A2,A0] at hc
  ·rename_i hc
   have h0:gL x i=0:=by simpa[A2,A0] using hc
   cases k with
   | zero=>simp at h;subst h;exact h0
   | succ k=>
    have:=Ky hz k n (by simpa using h)
    have e:i+1+k=i+(k+1):=by omega
    rw[←e];exact this
def bP (l:List Node):List Int:=N7 l l.length (l.length - 1) []
def aK (l:List Node):Int:=
 if A7 (A3 l.length 1) (A3 16 l.length)=true then 2
 else if A2 (A0 (bN 0 l) 0)=true then bN 0 l
 else if A2 (A0 (bP l).length l.length)=true then 1
 else if fQ 0 (bP l)=true then 0 else 1
theorem b4d (l:List Int):Q9 (iW l)=iW l:=iH (f:=fun n=>[vI n]) (g:=fun n=>[vI n]) (fun a=>by simp[V2,R4]) _
theorem Qc (l:List Node) (hl:l.length<2 ^ 62):fo 267 [A (nS 219 l)]=some (R (vI (aK l))):=by
 cases c1:A7 (A3 l.length 1) (A3 16 l.length)
 ·have M7:1≤l.length∧l.length≤16:=by simp[A7,A3] at c1;omega
  have ha:=b1i l M7.2 l 0 rfl
  simp -dsimp [f267] at ha
  cases c2:A0 (bN 0 l) 0
  ·rw[c2] at ha
   refine Vm (l.length+1) ?_
   simp (maxSteps:=1000000) +contextual -dsimp [f267,c1,c2,ha,aK]
  ·rw[c2] at ha
   have h0:bN 0 l=0:=by simpa[A0] using c2
   have hg:kB l:=fun k hk=>by
    have hz:=Ky h0 k l[k] (by simp[hk])
    rw[Nat.zero_add] at hz
    exact a4q hz
   have gw:fo 295 [A (nS 219 l),A (vI (l.length - 1:Nat)),Oe []]=some ⟨.own 2 (iW (bP l)),[],true⟩:=by
    unfold bP
    exact Ot l hg l.length (l.length - 1) [] (Nat.sub_lt M7.1 Nat.one_pos) (Nat.sub_lt M7.1 Nat.one_pos) M7.2 (Nat.zero_le _)
   simp only[Oe,iW,List.map_nil,List.length_nil] at gw
   have hs:=b4d (bP l)
   simp only[iW] at hs
   have hw:IntKind.i64.wrap ((l.length:Int) - 1)=((l.length - 1:Nat):Int):=by rw[B6]<;>omega
   have Rr:(bP l).length≤1000000:=by
    have h1:=Gm l l.length (l.length - 1) []
    have h2:=Nat.pow_le_pow_right (n:=2) (by omega) M7.2
    unfold bP
    simp only[List.length_nil] at h1
    omega
   have hb:=c8n l (bP l) Rr (bP l) 0 rfl
   simp -dsimp [f267,iW] at hb
   refine Vm (l.length+1) ?_
   cases c3:A0 (bP l).length l.length
   ·simp (maxSteps:=1000000) +contextual -dsimp [f267,c1,c2,c3,ha,gw,hs,hw,aK]
   ·have e3:(bP l).length=l.length:=by simp[A0] at c3;omega
    rw[e3] at hb
    cases c4:fQ 0 (bP l)
    ·rw[c4] at hb
     simp (maxSteps:=1000000) +contextual -dsimp [f267,c1,c2,c3,c4,ha,hb,gw,hs,hw,aK]
    ·rw[c4] at hb
     simp (maxSteps:=1000000) +contextual -dsimp [f267,c1,c2,c3,c4,ha,hb,gw,hs,hw,aK]
 ·refine Vm 1 ?_
  simp (maxSteps:=1000000) +contextual -dsimp [f267,c1,aK]
end Go.TM.Ft
