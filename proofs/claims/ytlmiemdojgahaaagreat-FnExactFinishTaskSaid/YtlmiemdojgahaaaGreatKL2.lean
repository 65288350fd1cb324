/- What functions of the program come to, by the machine. -/
import Derived.Test.YtlmiemdojgahaaaGreatKL1
set_option linter.unusedSimpArgs false
set_option linter.unusedVariables false
set_option maxHeartbeats 2000000
namespace Go.TM.Ft
open Go Go.TM Go.Proofs Go.Proofs.Tryz
set_option maxRecDepth 20000
attribute [local congr] M0
attribute [local simp] K2 K6 J4 K3 H7 J9 H8 G9 J1 G3
theorem i4y (list deep:List Int) (d:Int) (hd:deep.length≤1000000):fo 274 [d1a list (deep++[d])]=some ⟨vI d,d1b list (deep++[d]),true⟩:=by
 have hw:IntKind.i64.wrap (deep.length:Int)=(deep.length:Int):=by rw [A5] <;> omega
 have hlt:(deep.length:Int) < (deep.length:Int)+1:=by omega
 refine i0a 1 ?_
 simp (maxSteps:=1000000) +contextual -dsimp [f274,hw,hlt]
def A7 (at_:Int):Nat→List Step→List Int
 | _,[]=>[]
 | i,s::r=>if A1 (ltI 0 (i:Int)) (eqI s.parent at_)=true then (i:Int)::A7 at_ (i+1) r else A7 at_ (i+1) r
theorem c8i (all:List Step) (hall:all.length≤1000) (at_:Int):∀ (rest:List Step) (i:Nat) (acc:List Int),all.drop i=rest→acc.length≤i→
  A6 E (orc E) (199:Nat) (rest.length+1) (A8 f199 0) ⟨30,[(1,vI at_),(5,.ref 5 1 [] 0 acc.length),(9,.sl 124 (all.map (sT 219))),(10,vI all.length),(11,vI i)],[(5,⟨1,1,false,[.own 2 (iE acc)]⟩)],2⟩=
  some (.exit 0,⟨30,[(1,vI at_),(5,.ref 5 1 [] 0 (acc++A7 at_ i rest).length),(9,.sl 124 (all.map (sT 219))),(10,vI all.length),(11,vI (i+rest.length:Nat)),(12,vB false)],[(5,⟨1,1,false,[.own 2 (iE (acc++A7 at_ i rest))]⟩)],2⟩)
 | [],i,acc,h,ha=>by
  have hge:all.length≤i:=by simpa using h
  have hlt:ltI (i:Int) (all.length:Int)=false:=B6 (by omega)
  rw [C3]
  simp +contextual -dsimp [f199,hlt,A7]
 | s::rest,i,acc,h,ha=>by
  obtain ⟨hi,hc,hr⟩:=C6 h
  have hlt:ltI (i:Int) (all.length:Int)=true:=C4 (by omega)
  have hw:IntKind.i64.wrap ((i:Int)+1)=((i+1:Nat):Int):=by rw [A5] <;> omega
  have he:i+1+rest.length=i+(rest.length+1):=by omega
  have hm1:acc.length+1≤C2:=by unfold C2; omega
  cases c:A1 (ltI 0 (i:Int)) (eqI s.parent at_)
  ·have ih:=c8i all hall at_ rest (i+1) acc hr (by omega)
   rw [he] at ih
   have hm:A7 at_ i (s::rest)=A7 at_ (i+1) rest:=by simp [A7,c]
   rw [hm]
   refine C1 ?_ (by simpa only [List.length_cons] using ih)
   simp (maxSteps:=1000000) +contextual -dsimp [f199,hlt,hi,hc,hw,c,List.set]
  ·have ih:=c8i all hall at_ rest (i+1) (acc++[(i:Int)]) hr (by simp; omega)
   rw [he] at ih
   have hm:acc++A7 at_ i (s::rest)=acc++[(i:Int)]++A7 at_ (i+1) rest:=by simp [A7,c]
   rw [hm]
   refine C1 ?_ (by simpa only [List.length_cons] using ih)
   simp (maxSteps:=1000000) +contextual -dsimp [f199,hlt,hi,hc,hw,c,hm1,List.set]
theorem b5x (l:List Step) (hl:l.length≤1000) (at_:Int):fo 199 [A (.sl 124 (l.map (sT 219))),A (vI at_)]=some ⟨.own 2 (iE (A7 at_ 0 l)),[],true⟩:=by
 have hlp:=c8i l hl at_ l 0 [] rfl (by simp)
 have hc:D9 (iE (A7 at_ 0 l))=true:=by
  have:∀ (l:List Int),D9 (iE l)=true:=fun l=>by induction l <;> simp_all [D9,N5,clean]
  exact this _
 refine h8c (l.length+1) ?_
 simp -dsimp [f199] at hlp
 simp (maxSteps:=1000000) +contextual -dsimp [f199,hlp,hc]
def parOf (l:List Step) (at_:Nat):Int:=match l[at_]? with | some s=>s.parent | none=>0
def A9 (l:List Step) (at_:Int):Int:=match l[at_.toNat]? with | some s=>s.kind | none=>0
def a8b (l:List Step) (at_:Nat):Bool:=
 if orB (eqI at_ 0) (A0 (eqI (A9 l (parOf l at_)) 3))=true then false
 else A0 (eqI at_ (A4 (A7 (parOf l at_) 0 l) ((A7 (parOf l at_) 0 l).length - 1)))
theorem e1p {p:Int}:∀ {l:List Step} {i k:Nat} {s:Step},l[k]?=some s→0 < i+k→s.parent=p→((i+k:Nat):Int)∈A7 p i l
 | [],i,k,s,h,_,_=>by simp at h
 | x::l,i,0,s,h,h0,hp=>by
  simp at h; subst h
  have:A1 (ltI 0 (i:Int)) (eqI x.parent p)=true:=by simp [A1,ltI,eqI,hp]; omega
  simp [A7,this]
 | x::l,i,k+1,s,h,h0,hp=>by
  have:=e1p (i:=i+1) (k:=k) (by simpa using h) (by omega) hp
  have e:i+1+k=i+(k+1):=by omega
  rw [e] at this
  unfold A7
  split
  ·exact List.mem_cons_of_mem _ this
  ·exact this
theorem g6h (l:List Step) (hl:l.length≤1000) (at_:Nat) (ha:at_ < l.length) (hp:0 < at_→0≤parOf l at_∧parOf l at_ < l.length):
  fo 278 [A (.sl 124 (l.map (sT 219))),A (vI at_)]=some (R (vB (a8b l at_))):=by
 have hpar:(l[at_]).parent=parOf l at_:=by simp [parOf,ha]
 refine i0d 1 ?_
 cases c1:eqI at_ 0
 ·have h0:0 < at_:=by simp [eqI] at c1; omega
  obtain ⟨p1,p2⟩:=hp h0
  obtain ⟨k,hk⟩:=Int.eq_ofNat_of_zero_le p1
  have hk2:k < l.length:=by omega
  have hkind:(l[k]).kind=A9 l (k:Int):=by simp [A9,hk2]
  rw [hk] at hpar
  cases c2:eqI (A9 l (k:Int)) 3
  ·simp (maxSteps:=1000000) +contextual -dsimp [f278,ha,hpar,hk,hk2,hkind,c1,c2,a8b]
  ·have g:=b5x l hl (k:Int)
   have hm:((0+at_:Nat):Int)∈A7 (k:Int) 0 l:=e1p (k:=at_) (s:=l[at_]) (by simp [ha]) (by omega) hpar
   have hpos:0 < (A7 (k:Int) 0 l).length:=List.length_pos_of_mem hm
   have hkl:(A7 (k:Int) 0 l).length≤1000:=by
    have:∀ (l:List Step) (i:Nat),(A7 (k:Int) i l).length≤l.length:=fun l=>by
     induction l with
     | nil=>intro i; simp [A7]
     | cons s l ih=>intro i; unfold A7; split <;> simp <;> have:=ih (i+1) <;> omega
    have:=this l 0; omega
   have hw:IntKind.i64.wrap (((A7 (k:Int) 0 l).length:Int) - 1)=(((A7 (k:Int) 0 l).length - 1:Nat):Int):=by rw [A5] <;> omega
   have hlt:(A7 (k:Int) 0 l).length - 1 < (A7 (k:Int) 0 l).length:=by omega
   have e1:A4 (A7 (k:Int) 0 l) (((A7 (k:Int) 0 l).length:Int) - 1)=(A7 (k:Int) 0 l)[(A7 (k:Int) 0 l).length - 1]:=by
    have:(((A7 (k:Int) 0 l).length:Int) - 1).toNat=(A7 (k:Int) 0 l).length - 1:=by omega
    simp [A4,this,hlt]
   have hse:L5 (iE (A7 (k:Int) 0 l))=iE (A7 (k:Int) 0 l):=a3p (f:=fun n=>[vI n]) (g:=fun n=>[vI n]) (fun a=>by simp [O5,L9]) _
   simp (maxSteps:=1000000) +contextual -dsimp [f278,ha,hpar,hk,hk2,hkind,c1,c2,g,hse,hw,hlt,e1,a8b]
 ·simp (maxSteps:=1000000) +contextual -dsimp [f278,ha,hpar,c1,a8b]
def U3 (l:List Node) (want:Int):Int:=
 if eqI l.length 0=true then 0 else B5 (a2c l).1 (if A0 (eqI (a2c l).2 want)=true then 7 else 0)
theorem d3p (l:List Node) (hl:l.length < 2 ^ 62) (want:Int):fo 234 [A (nS 219 l),A (vI want)]=some (R (vI (U3 l want))):=by
 have g:=h2p l hl
 refine h8v 1 ?_
 cases c1:eqI l.length 0
 ·simp (maxSteps:=1000000) +contextual -dsimp [f234,g,a7n,U5,c1,U3,List.set]
 ·simp (maxSteps:=1000000) +contextual -dsimp [f234,c1,U3]
def a4j (l:List Step) (at_:Nat):Bool:=match l[at_]? with | some s=>ltI 0 s.cond.length | none=>false
def condOf (l:List Step) (at_:Nat):List Node:=match l[at_]? with | some s=>s.cond | none=>[]
def b0k (l:List Step) (at_:Nat):Int:=
 B5 (if A0 (inR (A7 at_ 0 l).length (N8 (A9 l at_)).1 (N8 (A9 l at_)).2)=true then 1 else 0) (if A0 (eqB (a4j l at_) (a8b l at_))=true then 1 else 0)
def condFaultM (l:List Step) (at_:Nat):Int:=
 if orB (A0 (eqI (b0k l at_) 0)) (A0 (a4j l at_))=true then b0k l at_ else a0h (condOf l at_)
theorem g6i (l:List Step) (hl:l.length≤1000) (at_:Nat) (ha:at_ < l.length) (hp:0 < at_→0≤parOf l at_∧parOf l at_ < l.length) (hc:(condOf l at_).length < 2 ^ 62):
  fo 233 [A (.sl 124 (l.map (sT 219))),A (vI at_)]=some (R (vI (condFaultM l at_))):=by
 have g1:=b5x l hl at_
 have g2:=g6h l hl at_ ha hp
 have g3:=c1k (condOf l at_) hc
 have hse:L5 (iE (A7 at_ 0 l))=iE (A7 at_ 0 l):=a3p (f:=fun n=>[vI n]) (g:=fun n=>[vI n]) (fun a=>by simp [O5,L9]) _
 have e1:(l[at_]).kind=A9 l at_:=by simp [A9,ha]
 have e2:ltI 0 (l[at_]).cond.length=a4j l at_:=by simp [a4j,ha]
 have e3:(l[at_]).cond=condOf l at_:=by simp [condOf,ha]
 have e4:ltI 0 (condOf l at_).length=a4j l at_:=by simp [a4j,condOf,ha]
 refine h8u 1 ?_
 simp (maxSteps:=1000000) +contextual -dsimp [f233,g5n,G1,a7n,U5,g1,g2,g3,hse,ha,e1,e3,e4,condFaultM,b0k,List.set]
 rfl
abbrev i6o (list deep:List Int):Arg:=⟨.ptr 1 0 [] 0,some (pR 0 1 list deep)⟩
abbrev i6p (list deep:List Int):List (Nat × List T):=[(1,[.own 2 (iE list),.own 2 (iE deep)])]
def ci (b:Bool) (c:Int):Int:=if b then c else 0
theorem O6 (b:Bool) (c:Int):fo 114 [A (vB b),A (vI c)]=some (R (vI (ci b c))):=a7n b c
def a3z (s:Step):Bool:=
 orB (orB (A1 (A0 (eqS s.name emp)) (A0 (eqI s.kind 2))) (A1 (A0 (eqI s.arg 0)) (eqI (P8 s.kind).2 0))) (A1 (ltI 0 s.expr.length) (A0 (eqI s.kind 7)))
def a1k (s:Step) (list deep:List Int):Int:=
 B5 (ci (orB (A0 (inR s.kind 1 8)) (a3z s)) 1) (L6 list deep s.parent).1
def b1g (s:Step):Int:=
 if eqI s.kind 2=true then b3i s.name
 else if eqI s.kind 7=true then B5 (ci (A0 (inR s.arg (P8 s.kind).1 (P8 s.kind).2)) 3) (a0h s.expr)
 else ci (A0 (inR s.arg (P8 s.kind).1 (P8 s.kind).2)) 3
def V1 (s:Step) (list deep:List Int):Int:=
 if A0 (eqI (a1k s list deep) 0)=true then a1k s list deep
 else if A0 (eqI (ci (ltI 7 (a0a deep s.parent)) 2) 0)=true then ci (ltI 7 (a0a deep s.parent)) 2
 else b1g s
theorem g6j (s:Step) (list deep:List Int) (hp1:-9223372036854775808≤s.parent) (hp2:s.parent < 9223372036854775808) (ht:Tree list) (hl:list.length≤1000) (hd:deep.length=list.length)
  (hv:∀ d,d∈deep→0≤d∧d≤1000000) (hn:s.name.size < 2 ^ 62) (hx:s.expr.length < 2 ^ 62):
  fo 232 [A (.agg (sT 219 s)),i6o list deep]=some ⟨vI (V1 s list deep),i6p (L6 list deep s.parent).2.1 (L6 list deep s.parent).2.2,true⟩:=by
 have g1:=i4i list deep s.parent hp1 hp2 ht hl hd hv
 have g3:=g5p s.name hn
 have g4:=c1k s.expr hx
 refine h8t 1 ?_
 cases c1:eqI (a1k s list deep) 0
 ·simp only [a1k,a3z,emp] at c1
  simp (maxSteps:=1000000) +contextual -dsimp [f232,b4i,G1,O6,U5,g1,c1,V1,a1k,a3z,emp,List.set]
 ·have hz:a1k s list deep=0:=by simpa [eqI] using c1
  have hnx:L6 list deep s.parent=(0,list++[s.parent],deep++[a0a deep s.parent]):=by
   have h1:=(O1 hz).2
   unfold L6 at h1 ⊢
   split at h1
   ·simp at h1
   ·rename_i d1
    rw [if_neg d1]
    split at h1
    ·simp at h1
    ·rename_i d2
     rw [if_neg d2]
  have g2:=i4y (list++[s.parent]) deep (a0a deep s.parent) (by omega)
  simp only [d1a,d1b,pR,iE,List.map_append,List.map_cons,List.map_nil] at g2
  simp only [a1k,a3z,emp] at c1
  rw [hnx] at g1 c1
  simp only at g1 c1
  cases c2:eqI (ci (ltI 7 (a0a deep s.parent)) 2) 0
  rotate_left
  ·cases c3:eqI s.kind 2
   ·cases c4:eqI s.kind 7
    ·simp (maxSteps:=1000000) +contextual -dsimp [f232,b4i,G1,O6,U5,g1,g2,c2,c3,c4,hnx,V1,b1g,a1k,a3z,emp,List.set]
    ·simp (maxSteps:=1000000) +contextual -dsimp [f232,b4i,G1,O6,U5,g1,g2,g4,c2,c3,c4,hnx,V1,b1g,a1k,a3z,emp,List.set]
   ·simp (maxSteps:=1000000) +contextual -dsimp [f232,b4i,G1,O6,U5,g1,g2,g3,c2,c3,hnx,V1,b1g,a1k,a3z,emp,List.set]
  ·simp (maxSteps:=1000000) +contextual -dsimp [f232,b4i,G1,O6,U5,g1,g2,c1,c2,hnx,V1,a1k,a3z,emp,List.set]
structure Chart where
 status:Int
 now:Int
 vars:List Int
 acts:List Int
 dues:List Int
structure Inst where
 proc:Int
 chart:Chart
structure Claim where
 inst:Int
 step:Int
 user:Int
structure Engine where
 procs:List (List Step)
 insts:List Inst
 now:Int
structure Desk where
 eng:Engine
 claims:List Claim
abbrev iS (l:List Int):T:=.sl 2 (iE l)
abbrev cT (c:Chart):List T:=[vI c.status,vI c.now,iS c.vars,iS c.acts,iS c.dues]
abbrev xT (x:Inst):List T:=[vI x.proc,vI x.chart.status,vI x.chart.now,iS x.chart.vars,iS x.chart.acts,iS x.chart.dues]
abbrev pT (s n:TypeId) (p:List Step):List T:=[.sl s (p.map (sT n))]
abbrev kT (c:Claim):List T:=[vI c.inst,vI c.step,vI c.user]
theorem b4s (n:Int) (m:Nat) (hm:m < 2 ^ 62):fo 115 [A (vI n),A (vI m)]=some (R (vB (inR n 0 ((m:Int) - 1)))):=by
 have hw:IntKind.i64.wrap ((m:Int) - 1)=(m:Int) - 1:=by rw [A5] <;> omega
 refine h6i 1 ?_
 simp (maxSteps:=1000000) +contextual -dsimp [f115,G1,hw]
theorem b0l (n:Int):fo 201 [A (vI n)]=some (R (vB (inR n 1 9))):=by
 refine h8e 1 ?_
 simp (maxSteps:=1000000) +contextual -dsimp [f201,G1]
theorem b0m (n:Int):fo 169 [A (vI n)]=some (R (vB (inR n 0 1000000))):=by
 refine h7g 1 ?_
 simp (maxSteps:=1000000) +contextual -dsimp [f169,G1]
theorem i1r (n:Int):fo 288 [A (vI n)]=some (R (vB false)):=by
 refine i0k 1 ?_
 simp (maxSteps:=1000000) +contextual -dsimp [f288,B7,A0]
def a9y (a b:Int):Int:=if ltI a b=true then -1 else if ltI b a=true then 1 else 0
theorem h0o (a b:Int):fo 253 [A (vI a),A (vI b)]=some (R (vI (a9y a b))):=by
 refine h9n 1 ?_
 cases h:ltI a b <;> cases h2:ltI b a <;>
 simp (maxSteps:=1000000) +contextual -dsimp [f253,i1r,h,h2,a9y]
theorem i7c (a b:Int):fo 252 [A (.sl 3 [[vI a],[vI b]])]=some (R (vI (B5 a b))):=by
 have h0:ltI 0 2=true:=rfl
 have h1:ltI 1 2=true:=rfl
 have h2:ltI 2 2=false:=rfl
 have w1:IntKind.i64.wrap 1=1:=rfl
 have w2:IntKind.i64.wrap 2=2:=rfl
 refine h9m 4 ?_
 cases ha:eqI a 0
 ·simp -dsimp [f252,C3,h0,ha,B5]
 ·cases hb:eqI b 0
  ·simp -dsimp [f252,C3,h0,h1,w1,ha,hb,B5]
  ·simp -dsimp [f252,C3,h0,h1,h2,w1,w2,ha,hb,B5]
   simp [eqI] at hb; exact hb.symm
theorem g3s (a b:Claim):fo 204 [A (.agg (kT a)),A (.agg (kT b))]=some (R (vI (B5 (a9y a.inst b.inst) (a9y a.step b.step)))):=by
 refine h8h 1 ?_
 simp (maxSteps:=1000000) +contextual -dsimp [f204,h0o,i7c,List.set]
theorem h0p (x:Int):fo 236 [A (vI x)]=some (R (vB (A0 (inR x (-1000000) 1000000)))):=by
 refine h8w 1 ?_
 simp (maxSteps:=1000000) +contextual -dsimp [f236,G1]
theorem h4d (x m:Int):fo 283 [A (vI x),A (.ipt [vI m])]=some (R (vB (A0 (inR x 0 m)))):=by
 refine i0g 1 ?_
 simp (maxSteps:=1000000) +contextual -dsimp [f283,G1]
def D2 (p:Int→Bool):Nat→List Int→Int
 | _,[]=>-1
 | i,x::r=>if p x=true then i else D2 p (i+1) r
theorem b4z {p:Int→Bool}:∀ {l:List Int} {i:Nat},ltI (D2 p i l) 0=true→D2 p i l=-1
 | [],i,_=>rfl
 | x::l,i,h=>by
  unfold D2 at h ⊢
  split at h
  ·simp [ltI] at h; omega
  ·rename_i c; rw [if_neg c]; exact b4z h
def badV (x:Int):Bool:=A0 (inR x (-1000000) 1000000)
def a1o (m x:Int):Bool:=A0 (inR x 0 m)
theorem i4z (x:Int):fo 236 [A (vI x)]=some (R (vB (badV x))):=h0p x
theorem i5a (m x:Int):fo 283 [A (vI x),A (.ipt [vI m])]=some (R (vB (a1o m x))):=h4d x m
theorem e1q (all:List Int) (hall:all.length < 2 ^ 62):∀ (rest:List Int) (i:Nat),all.drop i=rest→
    A6 E (orc E) (280:Nat) (rest.length+1) (A8 f280 0) ⟨19,[(0,iS all),(1,.v (.func (.func (236:Nat)) #[] #[])),(7,vI all.length),(8,vI i)],[],2⟩=
    (if ltI (D2 badV i rest) 0 = true then some (.exit 0, ⟨19, [(0, iS all), (1, .v (.func (.func (236 : Nat)) #[] #[])), (7, vI all.length), (8, vI (i + rest.length : Nat)), (9, vB false)], [], 2⟩)
     else some (.ret,⟨19,[(4,vI (D2 badV i rest))],[],2⟩))
  | [],i,h=>by
    have hge:all.length≤i:=by simpa using h
    have hlt:ltI (i:Int) (all.length:Int)=false:=B6 (by omega)
    have h1:ltI (-1) 0=true:=rfl
    rw [C3]
    simp +contextual -dsimp [f280,hlt,D2,h1]
  | x::rest,i,h=>by
    obtain ⟨hi,hc,hr⟩:=C6 h
    have hlt:ltI (i:Int) (all.length:Int)=true:=C4 (by omega)
    have hw:IntKind.i64.wrap ((i:Int)+1)=((i+1:Nat):Int):=by rw [A5] <;> omega
    have he:i+1+rest.length=i+(rest.length+1):=by omega
    have h0:ltI (i:Int) 0=false:=B6 (by omega)
    have g:=i4z x
    cases c:badV x
    · have ih := e1q all hall rest (i + 1) hr
      rw [he] at ih
      have hm:D2 badV i (x::rest)=D2 badV (i+1) rest:=by simp [D2,c]
      rw [hm]
      rw [c] at g
      refine C1 ?_ (by simpa only [List.length_cons] using ih)
      simp (maxSteps:=1000000) +contextual -dsimp [f280,hlt,hi,hc,hw,g]
    · have hm : D2 badV i (x :: rest) = i := by simp [D2, c]
      rw [hm,h0,if_neg (by simp)]
      rw [c] at g
      refine D3 ?_ (by simp)
      simp (maxSteps:=1000000) +contextual -dsimp [f280,hlt,hi,hc,g]
theorem e1r {m:Int} (all:List Int) (hall:all.length < 2 ^ 62):∀ (rest:List Int) (i:Nat),all.drop i=rest→
    A6 E (orc E) (280:Nat) (rest.length+1) (A8 f280 0) ⟨19,[(0,iS all),(1,.clo (283:Nat) [.ipt [vI m]]),(7,vI all.length),(8,vI i)],[],2⟩=
    (if ltI (D2 (a1o m) i rest) 0 = true then some (.exit 0, ⟨19, [(0, iS all), (1, .clo (283 : Nat) [.ipt [vI m]]), (7, vI all.length), (8, vI (i + rest.length : Nat)), (9, vB false)], [], 2⟩)
     else some (.ret,⟨19,[(4,vI (D2 (a1o m) i rest))],[],2⟩))
  | [],i,h=>by
    have hge:all.length≤i:=by simpa using h
    have hlt:ltI (i:Int) (all.length:Int)=false:=B6 (by omega)
    have h1:ltI (-1) 0=true:=rfl
    rw [C3]
    simp +contextual -dsimp [f280,hlt,D2,h1]
  | x::rest,i,h=>by
    obtain ⟨hi,hc,hr⟩:=C6 h
    have hlt:ltI (i:Int) (all.length:Int)=true:=C4 (by omega)
    have hw:IntKind.i64.wrap ((i:Int)+1)=((i+1:Nat):Int):=by rw [A5] <;> omega
    have he:i+1+rest.length=i+(rest.length+1):=by omega
    have h0:ltI (i:Int) 0=false:=B6 (by omega)
    have g:=i5a m x
    cases c:(a1o m) x
    · have ih := e1r (m := m) all hall rest (i + 1) hr
      rw [he] at ih
      have hm:D2 (a1o m) i (x::rest)=D2 (a1o m) (i+1) rest:=by simp [D2,c]
      rw [hm]
      rw [c] at g
      refine C1 ?_ (by simpa only [List.length_cons] using ih)
      simp (maxSteps:=1000000) +contextual -dsimp [f280,hlt,hi,hc,hw,g]
    · have hm : D2 (a1o m) i (x :: rest) = i := by simp [D2, c]
      rw [hm,h0,if_neg (by simp)]
      rw [c] at g
      refine D3 ?_ (by simp)
      simp (maxSteps:=1000000) +contextual -dsimp [f280,hlt,hi,hc,g]
theorem h4e (l:List Int) (hl:l.length < 2 ^ 62):fo 280 [A (iS l),A (.v (.func (.func (236:Nat)) #[] #[]))]=some (R (vI (D2 badV 0 l))):=by
 have hlp:=e1q l hl l 0 rfl
 refine c6h (l.length+1) ?_
 simp -dsimp [f280] at hlp
 cases c:ltI (D2 badV 0 l) 0
 ·simp (maxSteps:=1000000) +contextual -dsimp [f280,hlp,c]
 ·have e:D2 badV 0 l=-1:=b4z c
  rw [e] at hlp ⊢
  simp (maxSteps:=1000000) +contextual -dsimp [f280,hlp]
theorem h4f (m:Int) (l:List Int) (hl:l.length < 2 ^ 62):fo 280 [A (iS l),A (.clo (283:Nat) [.ipt [vI m]])]=some (R (vI (D2 (a1o m) 0 l))):=by
 have hlp:=e1r (m:=m) l hl l 0 rfl
 refine c6h (l.length+1) ?_
 simp -dsimp [f280] at hlp
 cases c:ltI (D2 (a1o m) 0 l) 0
 ·simp (maxSteps:=1000000) +contextual -dsimp [f280,hlp,c]
 ·have e:D2 (a1o m) 0 l=-1:=b4z c
  rw [e] at hlp ⊢
  simp (maxSteps:=1000000) +contextual -dsimp [f280,hlp]
def V3 (p:Int→Bool) (l:List Int):Bool:=leI 0 (D2 p 0 l)
theorem i1s (l:List Int) (hl:l.length < 2 ^ 62):fo 235 [A (iS l),A (.v (.func (.func (236:Nat)) #[] #[]))]=some (R (vB (V3 badV l))):=by
 have g:=h4e l hl
 refine c6f 1 ?_
 simp (maxSteps:=1000000) +contextual -dsimp [f235,g,V3]
theorem i1t (m:Int) (l:List Int) (hl:l.length < 2 ^ 62):fo 235 [A (iS l),A (.clo (283:Nat) [.ipt [vI m]])]=some (R (vB (V3 (a1o m) l))):=by
 have g:=h4f m l hl
 refine c6f 1 ?_
 simp (maxSteps:=1000000) +contextual -dsimp [f235,g,V3]
theorem g7w (l:List Int) (hl:l.length < 2 ^ 62) (m:Int):fo 244 [A (iS l),A (vI m)]=some (R (vB (A0 (V3 (a1o m) l)))):=by
 have g:=i1t m l hl
 refine h9e 1 ?_
 simp (maxSteps:=1000000) +contextual -dsimp [f244,g]
def M4 (l:List Int):Int:=B5 (ci (A0 (eqI l.length 4)) 2) (ci (V3 badV l) 3)
theorem d3q (l:List Int) (hl:l.length < 2 ^ 62):fo 168 [A (iS l)]=some (R (vI (M4 l))):=by
 have g:=i1s l hl
 refine h7f 1 ?_
 simp (maxSteps:=1000000) +contextual -dsimp [f168,g,O6,U5,M4,List.set]
theorem h4g (a b c d:Int):fo 78 [A (.sl 2 [[vI a],[vI b],[vI c],[vI d]])]=some (R (vI (B5 a (B5 b (B5 c d))))):=by
 have h0:ltI 0 4=true:=rfl
 have h1:ltI 1 4=true:=rfl
 have h2:ltI 2 4=true:=rfl
 have h3:ltI 3 4=true:=rfl
 have h4:ltI 4 4=false:=rfl
 have w1:IntKind.i64.wrap 1=1:=rfl
 have w2:IntKind.i64.wrap 2=2:=rfl
 have w3:IntKind.i64.wrap 3=3:=rfl
 have w4:IntKind.i64.wrap 4=4:=rfl
 refine f7r 6 ?_
 cases ha:eqI a 0
 ·simp -dsimp [f78,C3,h0,ha,B5]
 ·cases hb:eqI b 0
  ·simp -dsimp [f78,C3,h0,h1,w1,ha,hb,B5]
  ·cases hc:eqI c 0
   ·simp -dsimp [f78,C3,h0,h1,h2,w1,w2,ha,hb,hc,B5]
   ·cases hd:eqI d 0
    ·simp -dsimp [f78,C3,h0,h1,h2,h3,w1,w2,w3,ha,hb,hc,hd,B5]
    ·simp -dsimp [f78,C3,h0,h1,h2,h3,h4,w1,w2,w3,w4,ha,hb,hc,hd,B5]
     simp [eqI] at hd; exact hd.symm
abbrev bT (l:List Step) (c:Chart):List T:=[.sl 124 (l.map (sT 219)),vI c.status,vI c.now,iS c.vars,iS c.acts,iS c.dues]
def C7 (acts:List Int) (act:Int):List Int→Nat→Nat
 | [],n=>n
 | k::r,n=>C7 acts act r (if eqI (A4 acts k) act=true then n+1 else n)
theorem a8c (acts:List Int) (act:Int):∀ (l:List Int) (n:Nat),C7 acts act l n≤n+l.length
 | [],n=>by simp [C7]
 | k::l,n=>by
  unfold C7
  rw [List.length_cons]
  split
  ·have:=a8c acts act l (n+1); omega
  ·have:=a8c acts act l n; omega
theorem a0b {l:List Int} {k:Nat} (h:k < l.length):A4 l (k:Int)=l[k]:=by simp [A4,h]
theorem c7l (l:List Step) (c:Chart) (act:Int) (hb:c.acts.length < 2 ^ 62) (all:List Int) (hall:all.length≤1000) (hk:∀ k,k∈all→∃ a:Nat,k=a∧a < c.acts.length):∀ (rest:List Int) (i n:Nat),all.drop i=rest→n≤i→
  A6 E (orc E) (302:Nat) (rest.length+1) (A8 f302 0) ⟨30,[(0,.ipt (bT l c)),(2,vI act),(7,vI n),(10,iS all),(11,vI all.length),(12,vI i)],[],2⟩=
  some (.exit 0,⟨30,[(0,.ipt (bT l c)),(2,vI act),(7,vI (C7 c.acts act rest n)),(10,iS all),(11,vI all.length),(12,vI (i+rest.length:Nat)),(13,vB false)],[],2⟩)
 | [],i,n,h,hn=>by
  have hge:all.length≤i:=by simpa using h
  have hlt:ltI (i:Int) (all.length:Int)=false:=B6 (by omega)
  rw [C3]
  simp +contextual -dsimp [f302,hlt,C7]
 | x::rest,i,n,h,hn=>by
  obtain ⟨hi,hc,hr⟩:=C6 h
  obtain ⟨a,rfl,ha⟩:=hk x (by rw [← hc]; exact List.getElem_mem _)
  have hlt:ltI (i:Int) (all.length:Int)=true:=C4 (by omega)
  have hw:IntKind.i64.wrap ((i:Int)+1)=((i+1:Nat):Int):=by rw [A5] <;> omega
  have hw2:IntKind.i64.wrap ((n:Int)+1)=((n+1:Nat):Int):=by rw [A5] <;> omega
  have he:i+1+rest.length=i+(rest.length+1):=by omega
  have hs:=a0b ha
  cases q:eqI (c.acts[a]) act
  ·have ih:=c7l l c act hb all hall hk rest (i+1) n hr (by omega)
   rw [he] at ih
   have hm:C7 c.acts act ((a:Int)::rest) n=C7 c.acts act rest n:=by simp [C7,hs,q]
   rw [hm]
   refine C1 ?_ (by simpa only [List.length_cons] using ih)
   simp (maxSteps:=1000000) +contextual -dsimp [f302,hlt,hi,hc,hw,ha,q]
  ·have ih:=c7l l c act hb all hall hk rest (i+1) (n+1) hr (by omega)
   rw [he] at ih
   have hm:C7 c.acts act ((a:Int)::rest) n=C7 c.acts act rest (n+1):=by simp [C7,hs,q]
   rw [hm]
   refine C1 ?_ (by simpa only [List.length_cons] using ih)
   simp (maxSteps:=1000000) +contextual -dsimp [f302,hlt,hi,hc,hw,hw2,ha,q]
theorem f6b (l:List Step) (c:Chart) (act:Int) (hb:c.acts.length < 2 ^ 62) (all:List Int) (hall:all.length≤1000) (hk:∀ k,k∈all→∃ a:Nat,k=a∧a < c.acts.length):
  fo 302 [A (.ipt (bT l c)),A (iS all),A (vI act)]=some (R (vI (C7 c.acts act all 0:Nat))):=by
 have hlp:=c7l l c act hb all hall hk all 0 0 rfl (Nat.le_refl _)
 refine i0t (all.length+1) ?_
 simp -dsimp [f302] at hlp
 simp (maxSteps:=1000000) +contextual -dsimp [f302,hlp]
end Go.TM.Ft
namespace Go.TM.Ft
open Go Go.TM Go.Proofs Go.Proofs.Tryz
set_option maxRecDepth 20000
attribute [local congr] M0
abbrev iW (l:List Int):List (List T):=l.map fun n=>[vI n]
abbrev d1d (out:List Int):Arg:=⟨.ref 2 0 [] 0 out.length,some ⟨0,0,false,[.own 2 (iW out)]⟩⟩
def J7 (l:List Node):Nat→Nat→List Int→List Int
 | 0,_,out=>out
 | f+1,at_,out=>
  match l[at_]? with
  | none=>out
  | some n=>
   if ltI 16 out.length=true then out
   else if ltI 2 n.kind=true then
    (if inR n.kind 3 9=true then J7 l f n.right.toNat (J7 l f n.left.toNat out) else J7 l f n.left.toNat out)++[(at_:Int)]
   else out++[(at_:Int)]
def a4y (l:List Node):Prop:=∀ (k:Nat) (h:k < l.length),(ltI 2 (l[k]).kind=true→0≤(l[k]).left∧(l[k]).left < k)∧(inR (l[k]).kind 3 9=true→0≤(l[k]).right∧(l[k]).right < k)
theorem b7q (l:List Node):∀ (f at_:Nat) (out:List Int),(J7 l f at_ out).length+1≤out.length+2 ^ f
 | 0,at_,out=>by simp [J7]
 | f+1,at_,out=>by
  have h1:=fun a o=>b7q l f a o
  have h2:0 < 2 ^ f:=Nat.pow_pos (by omega)
  have h3:2 ^ (f+1)=2*2 ^ f:=by rw [Nat.pow_succ]; omega
  unfold J7
  split
  ·omega
  ·rename_i n _
   split
   ·omega
   ·split
    ·split
     ·have:=h1 n.right.toNat (J7 l f n.left.toNat out)
      have:=h1 n.left.toNat out
      simp only [List.length_append,List.length_cons,List.length_nil]
      omega
     ·have:=h1 n.left.toNat out
      simp only [List.length_append,List.length_cons,List.length_nil]
      omega
    ·simp only [List.length_append,List.length_cons,List.length_nil]
     omega
theorem b5a (l:List Int):D9 (iW l)=true:=by induction l <;> simp_all [D9,N5,clean]
theorem c5g (l:List Node) (hg:a4y l):∀ (f at_:Nat) (out:List Int),at_ < f→at_ < l.length→f≤16→out.length≤1000000→
  fo 295 [A (nS 219 l),A (vI at_),d1d out]=some ⟨.own 2 (iW (J7 l f at_ out)),[],true⟩
 | 0,at_,out,h,_,_,_=>by omega
 | f+1,at_,out,h,hl,hf,ho=>by
  obtain ⟨g1,g2⟩:=hg at_ hl
  have hn:l[at_]?=some l[at_]:=by simp [hl]
  have hm1:out.length+1≤C2:=by unfold C2; omega
  refine i0m 1 ?_
  unfold J7
  rw [hn]
  simp only
  cases c1:ltI 16 out.length
  ·cases c2:ltI 2 (l[at_]).kind
   ·have c3:inR (l[at_]).kind 3 9=false:=by simp [ltI,inR,A1,leI] at c2 ⊢; omega
    have hc:D9 (iW out++[[vI at_]])=true:=by simpa using b5a (out++[(at_:Int)])
    simp (maxSteps:=1000000) +contextual -dsimp [f295,a9f,hl,hm1,c1,c2,c3,hc]
   ·obtain ⟨p1,p2⟩:=g1 c2
    obtain ⟨a,ha⟩:=Int.eq_ofNat_of_zero_le p1
    have ga:=c5g l hg f a out (by omega) (by omega) (by omega) ho
    have la:=b7q l f a out
    have l16:out.length≤16:=by simp [ltI] at c1; omega
    have hpow:2 ^ f≤32768:=by
     have:=Nat.pow_le_pow_right (n:=2) (by omega) (show f≤15 by omega)
     omega
    have ta:(l[at_]).left.toNat=a:=by omega
    cases c3:inR (l[at_]).kind 3 9
    ·have hm2:(J7 l f a out).length+1≤C2:=by unfold C2; omega
     have hc:D9 (iW (J7 l f a out)++[[vI at_]])=true:=by simpa using b5a (J7 l f a out++[(at_:Int)])
     simp (maxSteps:=1000000) +contextual -dsimp [f295,a9f,hl,hm2,c1,c2,c3,ha,ga,hc]
    ·obtain ⟨p3,p4⟩:=g2 c3
     obtain ⟨b,hb⟩:=Int.eq_ofNat_of_zero_le p3
     have gb:=c5g l hg f b (J7 l f a out) (by omega) (by omega) (by omega) (by omega)
     have lb:=b7q l f b (J7 l f a out)
     have hm2:(J7 l f b (J7 l f a out)).length+1≤C2:=by unfold C2; omega
     have hc:D9 (iW (J7 l f b (J7 l f a out))++[[vI at_]])=true:=by simpa using b5a (J7 l f b (J7 l f a out)++[(at_:Int)])
     simp (maxSteps:=1000000) +contextual -dsimp [f295,a9f,hl,hm2,c1,c2,c3,ha,hb,ga,gb,hc]
  ·have hc:=b5a out
   simp (maxSteps:=1000000) +contextual -dsimp [f295,c1,hc]
attribute [local simp] K2 K6 J4 K3 H7 J9 H8 G9 J1 G3
def a0c:Nat→List Node→Int
 | _,[]=>0
 | i,n::r=>if A0 (eqI (a2w n i) 0)=true then a2w n i else a0c (i+1) r
theorem f6c (all:List Node) (hall:all.length≤16):∀ (rest:List Node) (i:Nat),all.drop i=rest→
  A6 E (orc E) (267:Nat) (rest.length+1) (A8 f267 0) ⟨51,[(0,nS 219 all),(3,vI i)],[],2⟩=
  (if eqI (a0c i rest) 0=true then some (.exit 0,⟨51,[(0,nS 219 all),(3,vI (i+rest.length:Nat)),(18,vB false)],[],2⟩) else some (.ret,⟨51,[(2,vI (a0c i rest))],[],2⟩))
 | [],i,h=>by
  have hge:all.length≤i:=by simpa using h
  have hlt:ltI (i:Int) (all.length:Int)=false:=B6 (by omega)
  rw [C3]
  simp +contextual -dsimp [f267,hlt,a0c,eqI]
 | n::rest,i,h=>by
  obtain ⟨hi,hc,hr⟩:=C6 h
  have hlt:ltI (i:Int) (all.length:Int)=true:=C4 (by omega)
  have hw:IntKind.i64.wrap ((i:Int)+1)=((i+1:Nat):Int):=by rw [A5] <;> omega
  have he:i+1+rest.length=i+(rest.length+1):=by omega
  have g:=h2o n i (by omega) (by omega)
  cases c:eqI (a2w n i) 0
  ·have hm:a0c i (n::rest)=a2w n i:=by simp [a0c,c,A0]
   rw [hm,c,if_neg (by simp)]
   refine D3 ?_ (by simp)
   simp (maxSteps:=1000000) +contextual -dsimp [f267,hlt,hi,hc,g,c]
  ·have ih:=f6c all hall rest (i+1) hr
   rw [he] at ih
   have hm:a0c i (n::rest)=a0c (i+1) rest:=by simp [a0c,c,A0]
   rw [hm]
   refine C1 ?_ (by simpa only [List.length_cons] using ih)
   simp (maxSteps:=1000000) +contextual -dsimp [f267,hlt,hi,hc,hw,g,c]
def a2x:Nat→List Int→Bool
 | _,[]=>true
 | i,x::r=>if eqI x i=true then a2x (i+1) r else false
theorem f6d (l:List Node) (all:List Int) (hall:all.length≤1000000):∀ (rest:List Int) (i:Nat),all.drop i=rest→
  A6 E (orc E) (267:Nat) (rest.length+1) (A8 f267 1) ⟨51,[(5,.sl 2 (iW all)),(6,vI i)],[],2⟩=
  (if a2x i rest=true then some (.exit 2,⟨51,[(5,.sl 2 (iW all)),(6,vI (i+rest.length:Nat)),(42,vB false)],[],2⟩) else some (.ret,⟨51,[(2,vI 1)],[],2⟩))
 | [],i,h=>by
  have hge:all.length≤i:=by simpa using h
  have hlt:ltI (i:Int) (all.length:Int)=false:=B6 (by omega)
  rw [C3]
  simp +contextual -dsimp [f267,hlt,a2x]
 | x::rest,i,h=>by
  obtain ⟨hi,hc,hr⟩:=C6 h
  have hlt:ltI (i:Int) (all.length:Int)=true:=C4 (by omega)
  have hw:IntKind.i64.wrap ((i:Int)+1)=((i+1:Nat):Int):=by rw [A5] <;> omega
  have he:i+1+rest.length=i+(rest.length+1):=by omega
  cases c:eqI x i
  ·have hm:a2x i (x::rest)=false:=by simp [a2x,c]
   rw [hm,if_neg (by simp)]
   refine D3 ?_ (by simp)
   simp (maxSteps:=1000000) +contextual -dsimp [f267,hlt,hi,hc,c]
  ·have ih:=f6d l all hall rest (i+1) hr
   rw [he] at ih
   have hm:a2x i (x::rest)=a2x (i+1) rest:=by simp [a2x,c]
   rw [hm]
   refine C1 ?_ (by simpa only [List.length_cons] using ih)
   simp (maxSteps:=1000000) +contextual -dsimp [f267,hlt,hi,hc,hw,c]
theorem d7g {n:Node} {i:Nat} (h:a2w n i=0):(ltI 2 n.kind=true→0≤n.left∧n.left < i)∧(inR n.kind 3 9=true→0≤n.right∧n.right < i):=by
 unfold a2w at h
 split at h
 ·simp at h
 ·split at h
  ·simp at h
  ·split at h
   ·simp at h
   ·split at h
    ·simp at h
    ·rename_i hc
     simp only [orB,A1,A0,inR,leI,Bool.or_eq_true,Bool.and_eq_true,Bool.not_eq_true',decide_eq_true_eq,decide_eq_false_iff_not,Bool.and_eq_false_iff,not_or,not_and] at hc
     refine ⟨fun h2=>?_,fun h3=>?_⟩
     ·have g2:2 < n.kind:=by simpa [ltI] using h2
      have:=hc.1 (by omega)
      omega
     ·have g3:3≤n.kind∧n.kind≤9:=by simpa [inR,A1,leI] using h3
      have:=hc.2 g3
      omega
theorem c3f:∀ {l:List Node} {i:Nat},a0c i l=0→∀ (k:Nat) (n:Node),l[k]?=some n→a2w n (i+k:Nat)=0
 | [],i,_,k,n,h=>by simp at h
 | x::l,i,hz,k,n,h=>by
  unfold a0c at hz
  split at hz
  ·rename_i hc
   rw [hz] at hc; simp [A0,eqI] at hc
  ·rename_i hc
   have h0:a2w x i=0:=by simpa [A0,eqI] using hc
   cases k with
   | zero=>simp at h; subst h; exact h0
   | succ k=>
    have:=c3f hz k n (by simpa using h)
    have e:i+1+k=i+(k+1):=by omega
    rw [← e]; exact this
def a0f (l:List Node):List Int:=J7 l l.length (l.length - 1) []
def U9 (l:List Node):Int:=
 if orB (ltI l.length 1) (ltI 16 l.length)=true then 2
 else if A0 (eqI (a0c 0 l) 0)=true then a0c 0 l
 else if A0 (eqI (a0f l).length l.length)=true then 1
 else if a2x 0 (a0f l)=true then 0 else 1
theorem d7h (l:List Int):L5 (iW l)=iW l:=a3p (f:=fun n=>[vI n]) (g:=fun n=>[vI n]) (fun a=>by simp [O5,L9]) _
theorem c3g (l:List Node) (hl:l.length < 2 ^ 62):fo 267 [A (nS 219 l)]=some (R (vI (U9 l))):=by
 cases c1:orB (ltI l.length 1) (ltI 16 l.length)
 ·have hl2:1≤l.length∧l.length≤16:=by simp [orB,ltI] at c1; omega
  have ha:=f6c l hl2.2 l 0 rfl
  simp -dsimp [f267] at ha
  cases c2:eqI (a0c 0 l) 0
  ·rw [c2] at ha
   refine c6g (l.length+1) ?_
   simp (maxSteps:=1000000) +contextual -dsimp [f267,c1,c2,ha,U9]
  ·rw [c2] at ha
   have h0:a0c 0 l=0:=by simpa [eqI] using c2
   have hg:a4y l:=fun k hk=>by
    have hz:=c3f h0 k l[k] (by simp [hk])
    rw [Nat.zero_add] at hz
    exact d7g hz
   have gw:fo 295 [A (nS 219 l),A (vI (l.length - 1:Nat)),d1d []]=some ⟨.own 2 (iW (a0f l)),[],true⟩:=by
    unfold a0f
    exact c5g l hg l.length (l.length - 1) [] (Nat.sub_lt hl2.1 Nat.one_pos) (Nat.sub_lt hl2.1 Nat.one_pos) hl2.2 (Nat.zero_le _)
   simp only [d1d,iW,List.map_nil,List.length_nil] at gw
   have hs:=d7h (a0f l)
   simp only [iW] at hs
   have hw:IntKind.i64.wrap ((l.length:Int) - 1)=((l.length - 1:Nat):Int):=by rw [A5] <;> omega
   have hlo:(a0f l).length≤1000000:=by
    have h1:=b7q l l.length (l.length - 1) []
    have h2:=Nat.pow_le_pow_right (n:=2) (by omega) hl2.2
    unfold a0f
    simp only [List.length_nil] at h1
    omega
   have hb:=f6d l (a0f l) hlo (a0f l) 0 rfl
   simp -dsimp [f267,iW] at hb
   refine c6g (l.length+1) ?_
   cases c3:eqI (a0f l).length l.length
   ·simp (maxSteps:=1000000) +contextual -dsimp [f267,c1,c2,c3,ha,gw,hs,hw,U9]
   ·have e3:(a0f l).length=l.length:=by simp [eqI] at c3; omega
    rw [e3] at hb
    cases c4:a2x 0 (a0f l)
    ·rw [c4] at hb
     simp (maxSteps:=1000000) +contextual -dsimp [f267,c1,c2,c3,c4,ha,hb,gw,hs,hw,U9]
    ·rw [c4] at hb
     simp (maxSteps:=1000000) +contextual -dsimp [f267,c1,c2,c3,c4,ha,hb,gw,hs,hw,U9]
 ·refine c6g 1 ?_
  simp (maxSteps:=1000000) +contextual -dsimp [f267,c1,U9]
end Go.TM.Ft
