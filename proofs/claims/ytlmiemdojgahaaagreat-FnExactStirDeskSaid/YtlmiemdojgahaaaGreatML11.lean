/- What functions of the program come to, by the machine. -/
import Derived.Test.YtlmiemdojgahaaaGreatML10
import Derived.Test.YtlmiemdojgahaaaGreatML7
import Derived.Test.YtlmiemdojgahaaaGreatML8
set_option linter.unusedSimpArgs false
set_option linter.unusedVariables false
set_option maxHeartbeats 4000000
namespace Go.TM.Ft
open Go Go.TM Go.Proofs Go.Proofs.Tryz
set_option maxRecDepth 20000
attribute [local congr] O3
attribute [local simp] L9 M4 K0 L6 J6 L4 J8 J1 K5 I6 Y3 cQ
theorem gE (l:List Int):K1 (iE l)=true:=by induction l<;>simp_all [K1,U9,clean]
attribute [local simp] gE
theorem a8i (l:List Int):((iE l).all fun c=>c.all dJ)=true:=by
 rw[List.all_eq_true];intro c hc;obtain⟨x,_,rfl⟩:=List.mem_map.1 hc;rfl
theorem wO {n:Nat} (h:n≤1048576):n≤D0:=by unfold D0;omega
theorem Ct (l:List Int) (hl:l.length≤1048576):fo 170 [A (iS l)]=some ⟨.own 2 (iE l),[],true⟩:=by
 refine Ds (g:=kM 2) rfl ?_
 have h1:=a8i l
 have h2:=wO hl
 simp only[kM]
 rw[if_pos ⟨trivial,h1,by simpa using h2⟩,gE]
theorem Dw (l:List Int) (hl:l.length≤1048576):fo 160 [A (iS l)]=some ⟨.own 2 (iE l),[],true⟩:=by
 have h1:=a8i l
 have h2:=wO hl
 have hm:(iE l).length≤D0:=by simpa using h2
 refine d6n 1 ?_
 simp (maxSteps:=1000000) +contextual -dsimp [f160,h1,h2,hm,List.set]
structure Few (c:Chart):Prop where
 vars:c.vars.length≤1048576
 acts:c.acts.length≤1048576
 dues:c.dues.length≤1048576
theorem Ll (c:Chart) (h:Few c):fo 188 [A (.agg (cT c))]=some ⟨.agg (cO c),[],true⟩:=by
 have g1:=Ct c.vars h.vars
 have g2:=Ct c.acts h.acts
 have g3:=Ct c.dues h.dues
 refine d4n 1 ?_
 simp (maxSteps:=1000000) +contextual -dsimp [f188,g1,g2,g3,List.set]
theorem c1x (c:Chart) (h:Few c):fo 164 [A (.agg (cT c))]=some ⟨.agg (cO c),[],true⟩:=by
 have g1:=Dw c.vars h.vars
 have g2:=Dw c.acts h.acts
 have g3:=Dw c.dues h.dues
 refine e3u 1 ?_
 simp (maxSteps:=1000000) +contextual -dsimp [f164,g1,g2,g3,List.set]
def gG:Chart:=⟨0,0,[],[],[]⟩
abbrev RR (r:Int×Chart):Res:=⟨.agg (vI r.1::cO r.2),[],true⟩
theorem wK (k:Int):fo 158 [A (vI k)]=some (RR (k,gG)):=by
 refine d4g 1 ?_
 simp (maxSteps:=1000000) +contextual -dsimp [f158,gG,List.set]
theorem Tv {v:List Int} (h:W6 v=0):v.length=4∧∀ x,x∈v→badV x=false:=by
 unfold W6 at h
 obtain⟨h1,h2⟩:=P9 h
 have h1:=jT (by omega) h1
 have h2:=jT (by omega) h2
 rw[rY] at h2
 refine⟨by simp[A2,A0] at h1;omega,fun x hx=>?_⟩
 rw[List.any_eq_false] at h2
 have:=h2 x hx
 cases q:badV x
 ·rfl
 ·exact absurd q this
theorem jU {l:List Step} {c:Chart} (h:chartM l c=0):Inv l c∧Wf l∧1≤c.status∧c.status≤3:=by
 obtain⟨z1,z2,z3,z4,z5,z6⟩:=Dc (Qy h)
 obtain⟨v1,v2⟩:=Tv z4
 exact⟨⟨v1,z5,z6,z3.1,z3.2,v2⟩,Wm z1,z2.1,z2.2⟩
theorem Inv.few {l:List Step} {c:Chart} (h:Inv l c) (w:Wf l):Few c:=by
 have:=w.ok.le
 exact⟨by rw[h.vars];omega,by rw[h.acts];omega,by rw[h.dues];omega⟩
theorem b1c (a b c:Int):fo 78 [A (.sl 2 [[vI a],[vI b],[vI c]])]=some (R (vI (C5 a (C5 b c)))):=by
 have h0:A3 0 3=true:=rfl
 have h1:A3 1 3=true:=rfl
 have h2:A3 2 3=true:=rfl
 have h3:A3 3 3=false:=rfl
 have w1:IntKind.i64.wrap 1=1:=rfl
 have w2:IntKind.i64.wrap 2=2:=rfl
 have w3:IntKind.i64.wrap 3=3:=rfl
 refine Nz 5 ?_
 cases ha:A0 a 0
 ·simp -dsimp [f78,D5,h0,ha,C5]
 ·cases hb:A0 b 0
  ·simp -dsimp [f78,D5,h0,h1,w1,ha,hb,C5]
  ·cases hc:A0 c 0
   ·simp -dsimp [f78,D5,h0,h1,h2,w1,w2,ha,hb,hc,C5]
   ·simp -dsimp [f78,D5,h0,h1,h2,h3,w1,w2,w3,ha,hb,hc,C5]
    simp[A0] at hc;exact hc.symm
def dU (l:List Step) (vars:List Int) (now:Int):Int:=C5 (Q4 l) (C5 (W6 vars) (ci (A2 (A5 now 0 1000000)) 3))
def mI (l:List Step) (vars:List Int) (now:Int):Chart:=⟨1,now,vars,List.replicate l.length 0,List.replicate l.length 0⟩
def eW (l:List Step) (vars:List Int) (now:Int):Int×Chart:=if A2 (A0 (dU l vars now) 0)=true then (dU l vars now,gG) else (0,J4 l true 0 (mI l vars now))
theorem Lp {l:List Step} {vars:List Int} {now:Int} (h:dU l vars now=0):Inv l (mI l vars now)∧Wf l:=by
 unfold dU at h
 obtain⟨h1,h2⟩:=P9 h
 obtain⟨h2,h3⟩:=P9 h2
 have h3:=jT (by omega) h3
 obtain⟨v1,v2⟩:=Tv h2
 have h3:0≤now∧now≤1000000:=by
  have:A5 now 0 1000000=true:=by cases e:A5 now 0 1000000<;>simp[A2,e] at h3 ⊢
  simpa[A5,A6,B5] using this
 exact⟨⟨v1,by simp[mI],by simp[mI],h3.1,h3.2,v2⟩,Wm h1⟩
theorem e4f (l:List Step) (hl:l.length<2 ^ 62) (hf:∀ s,s∈l→FitS s) (vars:List Int) (hv:vars.length<2 ^ 62) (now:Int):
  fo 77 [A (.sl 124 (l.map (sT 219))),A (iS vars),A (vI now)]=some (RR (eW l vars now)):=by
 have g1:=Vr l hl hf
 have g2:=c7h vars hv
 have g3:=b1c (Q4 l) (W6 vars) (ci (A2 (A5 now 0 1000000)) 3)
 rw[show C5 (Q4 l) (C5 (W6 vars) (ci (A2 (A5 now 0 1000000)) 3))=dU l vars now from rfl] at g3
 unfold eW
 cases q:A0 (dU l vars now) 0
 ·refine Xd 1 ?_
  simp (maxSteps:=1000000) +contextual -dsimp [f77,g1,g2,g3,oJ,O4,q,gG,List.set]
 ·have q0:dU l vars now=0:=by simpa[A0] using q
  obtain⟨hI,w⟩:=Lp q0
  have hp:=w.ok.pos
  have D8:=w.ok.le
  have g4:=Ct vars (by have:=hI.vars;simp[mI] at this;omega)
  have hm:((l.length:Nat):Int)≤(D0:Nat):=by unfold D0;omega
  obtain⟨g5,_⟩:=b8d w hI 0 (by omega)
  rw[q0] at g3
  have e0:((0:Nat):Int)=0:=rfl
  have q1:A0 0 0=true:=rfl
  rw[e0] at g5
  generalize J4 l true 0 (mI l vars now)=c' at *
  simp only[mI,aB,bO,iE,List.map_replicate] at g5
  refine Xd 1 ?_
  simp (maxSteps:=1000000) +contextual -dsimp [f77,g1,g2,g3,g4,g5,oJ,O4,q1,hm,List.set]
theorem e8t (l:List Step) (hl:l.length<2 ^ 62) (hf:qZ l) (vars:List Int) (now:Int):
  fo 70 [A (.sl 124 (l.map (sT 219))),A (iS vars),A (vI now)]=some (RR (eW l vars now)):=by
 have g1:=Sw l hl hf
 have g2:=a1r vars
 rw[Gg] at g1
 rw[c4z] at g2
 unfold eW
 cases q:A0 (Q4 l) 0
 ·have e:dU l vars now=Q4 l:=by simp[dU,C5,q]
  rw[e,q]
  have gb:=wK (Q4 l)
  refine Db 1 ?_
  simp (maxSteps:=1000000) +contextual -dsimp [f70,g1,gb,q,List.set]
 ·have e0:Q4 l=0:=by simpa[A0] using q
  cases q2:A0 (W6 vars) 0
  ·have e:dU l vars now=W6 vars:=by simp[dU,C5,q,q2]
   rw[e,q2]
   have gb:=wK (W6 vars)
   refine Db 1 ?_
   simp (maxSteps:=1000000) +contextual -dsimp [f70,g1,g2,gb,q,q2,List.set]
  ·cases q3:A5 now 0 1000000
   ·have e:dU l vars now=3:=by simp[dU,C5,q,q2,q3,ci,A2]
    have q30:A0 3 0=false:=rfl
    rw[e,q30]
    have gb:=wK 3
    refine Db 1 ?_
    simp (maxSteps:=1000000) +contextual -dsimp [f70,g1,g2,gb,dD,q,q2,q3,List.set]
   ·have e:dU l vars now=0:=by simp[dU,C5,q,q2,q3,ci,A2]
    obtain⟨hI,w⟩:=Lp e
    have hp:=w.ok.pos
    have D8:=w.ok.le
    have g4:=Dw vars (by have:=hI.vars;simp[mI] at this;omega)
    have hm:((l.length:Nat):Int)≤(D0:Nat):=by unfold D0;omega
    have g5:=a0u w hI 0 (by omega)
    have z0:((0:Nat):Int)=0:=rfl
    have q1:A0 0 0=true:=rfl
    rw[z0] at g5
    rw[e,q1]
    generalize J4 l true 0 (mI l vars now)=c' at *
    simp only[mI,aC,cO,iE,List.map_replicate] at g5
    refine Db 1 ?_
    simp (maxSteps:=1000000) +contextual -dsimp [f70,g1,g2,g4,g5,dD,q,q2,q3,hm,List.set]
end Go.TM.Ft
namespace Go.TM.Ft
open Go Go.TM Go.Proofs Go.Proofs.Tryz
set_option maxRecDepth 20000
attribute [local congr] O3
attribute [local simp] L9 M4 K0 L6 J6 L4 J8 J1 K5 I6 Y3 cQ gE
def a7w (l:List Step) (c:Chart) (step:Int) (vars:List Int):Int×Chart:=
 if A2 (A0 (C5 (chartM l c) (W6 vars)) 0)=true then (C5 (chartM l c) (W6 vars),gG)
 else if A2 (qN l c.acts step)=true then (4,gG) else (0,J4 l false step.toNat { c with vars:=vars })
theorem d3j {l:List Step} {acts:List Int} {step:Int} (h:qN l acts step=true):∃ k:Nat,step=k∧k<l.length∧C2 l k=2∧B4 acts k=1:=by
 simp only[qN,A6,A5,B5,A0,Bool.and_eq_true,decide_eq_true_eq] at h
 obtain⟨⟨⟨h1,h2⟩,h3⟩,h4⟩:=h
 refine⟨step.toNat,by omega,by omega,?_⟩
 rw[show ((step.toNat:Nat):Int)=step by omega]
 exact⟨by simpa using h3,by simpa using h4⟩
end Go.TM.Ft
namespace Go.TM.Ft
open Go Go.TM Go.Proofs Go.Proofs.Tryz
set_option maxRecDepth 20000
section
variable {l:List Step}
def dueK (l:List Step) (i:Nat):Prop:=C2 l i=6∨C2 l i=8
structure Late (l:List Step) (c c':Chart):Prop where
 now:c'.now=c.now
 dues:∀ i,c'.dues[i]?=c.dues[i]?∨c'.dues[i]?=some 0∨∃ y,c'.dues[i]?=some y∧c.now<y∧dueK l i
theorem Late.same {c c':Chart} (h1:c'.now=c.now) (h2:c'.dues=c.dues):Late l c c':=⟨h1,fun i=>.inl (by rw[h2])⟩
theorem Late.refl {c:Chart}:Late l c c:=.same rfl rfl
theorem Late.trans {a b c:Chart} (h:Late l a b) (h':Late l b c):Late l a c:=⟨h'.now.trans h.now,fun i=>by
 rcases h'.dues i with e | e | ⟨y,e1,e2,e3⟩
 ·rw[e];exact h.dues i
 ·exact .inr (.inl e)
 ·exact .inr (.inr ⟨y,e1,by rw[←h.now];exact e2,e3⟩)⟩
theorem Late.stop {c:Chart} (h:Inv l c) (st:Int):Late l c (aU l st c):=⟨rfl,fun i=>by
 rcases Nat.lt_or_ge i l.length with hi | hi
 ·exact .inr (.inl (by simp[aU,hi]))
 ·exact .inl (by have:=h.dues;rw[List.getElem?_eq_none (by simp[aU];omega),List.getElem?_eq_none (by omega)])⟩
theorem Dh:∀ (ks xs:List Int) (i:Nat),(jJ ks xs)[i]?=xs[i]?∨(jJ ks xs)[i]?=some 0
 | [],xs,i=>.inl rfl
 | k::ks,xs,i=>by
  have e:jJ (k::ks) xs=jJ ks (xs.set k.toNat 0):=rfl
  rw[e]
  rcases Dh ks (xs.set k.toNat 0) i with h | h
  ·rw[h,List.getElem?_set]
   split
   ·split
    ·exact .inr rfl
    ·rename_i h1 h2;subst h1;exact .inl (by rw[List.getElem?_eq_none (by omega)])
   ·exact .inl rfl
  ·exact .inr h
theorem a7e:∀ (ks xs:List Int) (i:Nat),(i:Int)∈ks→i<xs.length→(jJ ks xs)[i]?=some 0
 | [],_,_,h,_=>by simp at h
 | k::ks,xs,i,h,hi=>by
  have e:jJ (k::ks) xs=jJ ks (xs.set k.toNat 0):=rfl
  rw[e]
  rcases List.mem_cons.1 h with h | h
  ·subst h
   rcases Dh ks (xs.set i 0) i with h1 | h1
   ·simp only[Int.toNat_natCast]
    rw[h1,List.getElem?_set];simp[hi]
   ·exact h1
  ·exact a7e ks _ i h (by simpa using hi)
theorem Late.idle {c:Chart} (ks:List Int):Late l c (bM ks c):=⟨rfl,fun i=>by
 rcases Dh ks c.dues i with h | h
 ·exact .inl h
 ·exact .inr (.inl h)⟩
theorem Late.due {c:Chart} {k:Nat} {y:Int} (h:c.now<y) (hk:dueK l k):Late l c { c with dues:=c.dues.set k y }:=⟨rfl,fun i=>by
 simp only[List.getElem?_set]
 split
 ·rename_i e;subst e
  split
  ·exact .inr (.inr ⟨y,rfl,h,hk⟩)
  ·exact .inl (by rw[List.getElem?_eq_none (by omega)])
 ·exact .inl rfl⟩
def GoL (l:List Step) (go:Bool→Nat→Chart→Option Chart):Prop:=∀ b k c c',Inv l c→k<l.length→go b k c=some c'→Inv l c'∧Late l c c'
theorem GoL.all (w:Wf l) {go} (g:GoL l go):∀ (ks:List Int) (c c':Chart),(∀ x,x∈ks→∃ a:Nat,x=a∧a<l.length)→Inv l c→iI go ks c=some c'→Late l c c'
 | [],c,c',_,_,h=>by simp only[iI,Option.some.injEq] at h;subst h;exact .refl
 | x::ks,c,c',hk,hI,h=>by
  obtain⟨a,rfl,ha⟩:=hk x (by simp)
  unfold iI at h
  rw[Int.toNat_natCast] at h
  cases q:go true a c with
  | none=>rw[q] at h;simp at h
  | some c1=>
   rw[q] at h
   obtain⟨h1,h2⟩:=g true a c c1 hI ha q
   exact h2.trans (GoL.all w g ks c1 c' (fun x hx=>hk x (by simp[hx])) h1 h)
theorem GoL.ent (w:Wf l) {go} (g:GoL l go) {k:Nat} (hk:k<l.length) {c c':Chart} (hI:Inv l c) (h:oS go l k c=some c'):Late l c c':=by
 have ent:∀ {a:Nat} {c1:Chart},a<l.length→Inv l c1→Late l c c1→go true a c1=some c'→Late l c c':=fun ha h1 h2 h3=>h2.trans (g true _ _ _ h1 ha h3).2
 unfold oS at h
 split at h
 ·rename_i q
  obtain⟨a,h1,h2,h3⟩:=w.kid0 hk (.inl (by simpa[A0] using q))
  rw[h1,Int.toNat_natCast] at h
  exact ent h2 hI .refl h
 split at h
 ·exact GoL.all w g _ _ _ (fun x hx=>by obtain⟨a,h1,h2,_⟩:=w.kid hx;exact⟨a,h1,h2⟩) hI h
 split at h
 ·split at h
  ·simp only[Option.some.injEq] at h;subst h;exact .stop hI 3
  ·rename_i n1
   split at h
   ·simp only[Option.some.injEq] at h;subst h;exact .refl
   ·rename_i n2
    rcases Ss l c.vars (C0 k 0 l) with hh | hh | hh
    ·exact absurd (by rw[hh];rfl) n1
    ·exact absurd (by rw[hh];rfl) n2
    ·obtain⟨a,h1,h2,h3,_⟩:=w.kid hh
     rw[h1,Int.toNat_natCast] at h
     exact ent h2 hI .refl h
 split at h
 ·rename_i q
  have q:C2 l k=8:=by simpa[A0] using q
  have ha:=w.arg hk (.inr q)
  obtain⟨a,h1,h2,h3⟩:=w.kid0 hk (.inr q)
  rw[h1,Int.toNat_natCast] at h
  exact ent h2 (hI.due k _) (.due (by omega) (.inr q)) h
 split at h
 ·rename_i q
  have q:C2 l k=6:=by simpa[A0] using q
  have ha:=w.arg hk (.inl q)
  simp only[Option.some.injEq] at h;subst h
  exact .due (by omega) (.inl q)
 split at h
 ·rename_i q
  split at h
  ·simp only[Option.some.injEq] at h;subst h;exact .stop hI 3
  ·rename_i v hv
   have q:C2 l k=7:=by simpa[A0] using q
   obtain⟨okx,_⟩:=w.expr hk (by rw[←rE hk];exact q)
   rw[show (l[k]).expr=kK l k by simp[kK,hk]] at okx
   have lE:Inv l { c with vars:=c.vars.set (U7 l k).toNat v }:=hI.var _ (Ou okx hv)
   exact (Late.same rfl rfl:Late l c { c with vars:=c.vars.set (U7 l k).toNat v }).trans (g false k _ _ lE hk h).2
 ·simp only[Option.some.injEq] at h;subst h;exact .refl
theorem GoL.ovr (w:Wf l) {go} (g:GoL l go) {k:Nat} (hk:k<l.length) {c c':Chart} (hI:Inv l c) (h:qE go l k c=some c'):Late l c c':=by
 unfold qE at h
 split at h
 ·simp only[Option.some.injEq] at h;subst h;exact .stop hI 2
 rename_i q0
 have mQ:0<k:=by
  rcases Nat.eq_zero_or_pos k with e | e
  ·subst e;exact absurd rfl q0
  ·exact e
 obtain⟨p,hp,gQ⟩:=w.par hk mQ
 have R8:p<l.length:=by omega
 rw[hp,Int.toNat_natCast] at h
 have ovr:∀ {c1:Chart},Inv l c1→Late l c c1→go false p c1=some c'→Late l c c':=fun h1 h2 h3=>h2.trans (g false _ _ _ h1 R8 h3).2
 unfold Al at h
 split at h
 ·split at h
  ·rename_i q2
   have R7:=w.kid_of hk hp
   obtain⟨j,e1,e2,e3⟩:=zZ R7
   have ej:(j:Int)+1=((j+1:Nat):Int):=by omega
   rw[e1,ej] at q2 h
   have hj:j+1<(C0 p 0 l).length:=by simp[A3] at q2;omega
   obtain⟨s,h1,h2,h3,h4⟩:=w.kid (oA hj)
   rw[h1,Int.toNat_natCast] at h
   exact (g true _ _ _ hI h2 h).2
  ·exact ovr hI .refl h
 split at h
 ·split at h
  ·simp only[Option.some.injEq] at h;subst h;exact .same rfl rfl
  ·exact ovr (hI.act k 2) (.same rfl rfl) h
 ·exact ovr hI .refl h
theorem Cs (w:Wf l):∀ f,GoL l (V1 l f)
 | 0=>fun b k c c' _ _ h=>by cases b<;>simp[V1] at h
 | f+1=>fun b k c c' hI hk h=>by
  refine⟨?_,?_⟩
  ·have:=yC w (f+1) b k c c' hI hk h
   exact this.2
  have ih:=Cs w f
  cases b
  ·unfold V1 at h
   exact (Late.idle (O7 l k)).trans (GoL.ovr w ih hk (hI.idle _) h)
  ·unfold V1 at h
   split at h
   ·exact (Late.same rfl rfl:Late l c { c with acts:=c.acts.set k 1 }).trans (GoL.ent w ih hk (hI.act k 1) h)
   ·simp only[Option.some.injEq] at h;subst h;exact .refl
theorem c9h (w:Wf l) (b:Bool) (k:Nat) (c:Chart) (hI:Inv l c) (hk:k<l.length):Late l c (J4 l b k c):=(Cs w 700 b k c _ hI hk (tK w b k c hk)).2
theorem As (w:Wf l) (b:Bool) (k:Nat) (c:Chart) (hI:Inv l c) (hk:k<l.length):Inv l (J4 l b k c):=(Cs w 700 b k c _ hI hk (tK w b k c hk)).1
theorem e4y (w:Wf l) {k:Nat} (hk:k<l.length):(k:Int)∈O7 l k:=by
 rw[←c9g w k hk];simp
theorem d1z (w:Wf l) (k:Nat) (c:Chart) (hI:Inv l c) (hk:k<l.length):(J4 l false k c).dues[k]?=some 0∨∃ y,(J4 l false k c).dues[k]?=some y∧c.now<y:=by
 have h:=tK w false k c hk
 generalize J4 l false k c=c' at *
 unfold V1 at h
 have h1:=GoL.ovr w (Cs w 699) hk (hI.idle (O7 l k)) h
 have h2:(bM (O7 l k) c).dues[k]?=some 0:=a7e _ _ _ (e4y w hk) (by rw[hI.dues];exact hk)
 rcases h1.dues k with e | e | ⟨y,e1,e2,_⟩
 ·exact .inl (e.trans h2)
 ·exact .inl e
 ·exact .inr ⟨y,e1,e2⟩
def pG (now:Int) (dues:List Int) (d x:Int):Bool:=A6 (A6 (A2 (A0 x 0)) (B5 x now)) (A7 (A3 d 0) (A3 x (B4 dues d)))
def oD (dues:List Int) (now:Int):Int:=S8 (fun (i:Nat) (d:Int) (x:Int)=>if pG now dues d x=true then (i:Int) else d) 0 (-1) dues
def iN (now x:Int):Bool:=A6 (A2 (A0 x 0)) (B5 x now)
theorem b5o (dues:List Int) (now:Int):∀ (r:List Int) (i:Nat) (d:Int),dues.drop i=r→(d=-1∨∃ k:Nat,d=k∧k<dues.length∧iN now (B4 dues d)=true)→
  (∀ d',S8 (fun (i:Nat) (d:Int) (x:Int)=>if pG now dues d x=true then (i:Int) else d) i d r=d'→d'=-1∨∃ k:Nat,d'=k∧k<dues.length∧iN now (B4 dues d')=true)
 | [],i,d,_,h,d',e=>by simp only[S8] at e;subst e;exact h
 | x::r,i,d,hr,h,d',e=>by
  obtain⟨hi,hc,hr'⟩:=F6 hr
  simp only[S8] at e
  refine b5o dues now r (i+1) _ hr' ?_ d' e
  split
  ·rename_i q
   refine .inr ⟨i,rfl,hi,?_⟩
   rw[O1 hi,hc]
   simp only[pG,A6,Bool.and_eq_true] at q
   simp only[iN,A6,Bool.and_eq_true]
   exact q.1
  ·exact h
theorem Uh (dues:List Int) (now:Int):oD dues now=-1∨∃ k:Nat,oD dues now=k∧k<dues.length∧iN now (B4 dues k)=true:=by
 rcases b5o dues now dues 0 (-1) rfl (.inl rfl) (oD dues now) rfl with h | ⟨k,h1,h2,h3⟩
 ·exact .inl h
 ·exact .inr ⟨k,h1,h2,by rw[h1] at h3;exact h3⟩
def mA (now:Int) (dues:List Int):Nat:=dues.countP (iN now)
theorem b2w {p:Int→Bool}:∀ {xs ys:List Int} {k:Nat},xs.length=ys.length→(∀ (i:Nat) (x y:Int),xs[i]?=some x→ys[i]?=some y→p y=true→p x=true)→
  (∃ x y,xs[k]?=some x∧ys[k]?=some y∧p x=true∧p y=false)→ys.countP p<xs.countP p
 | [],_,k,_,_,⟨x,y,h,_⟩=>by simp at h
 | x::xs,[],k,h,_,_=>by simp at h
 | x::xs,y::ys,0,h,h1,⟨x',y',e1,e2,e3,e4⟩=>by
  simp only[List.getElem?_cons_zero,Option.some.injEq] at e1 e2
  subst e1;subst e2
  have:ys.countP p≤xs.countP p:=pB (by simpa using h) fun i a b ha hb=>h1 (i+1) a b (by simpa using ha) (by simpa using hb)
  simp only[List.countP_cons,e3,e4,if_true]
  simp;omega
 | x::xs,y::ys,k+1,h,h1,⟨x',y',e1,e2,e3,e4⟩=>by
  simp only[List.getElem?_cons_succ] at e1 e2
  have ih:=b2w (p:=p) (xs:=xs) (ys:=ys) (k:=k) (by simpa using h) (fun i a b ha hb=>h1 (i+1) a b (by simpa using ha) (by simpa using hb)) ⟨x',y',e1,e2,e3,e4⟩
  have h0:=h1 0 x y rfl rfl
  simp only[List.countP_cons]
  cases hy:p y
  ·simp;split<;>omega
  ·simp[h0 hy];exact ih
where
 pB {p:Int→Bool}:∀ {xs ys:List Int},xs.length=ys.length→(∀ (i:Nat) (x y:Int),xs[i]?=some x→ys[i]?=some y→p y=true→p x=true)→ys.countP p≤xs.countP p
 | [],ys,h,_=>by cases ys<;>simp at h ⊢
 | x::xs,[],_,_=>by simp
 | x::xs,y::ys,h,h1=>by
  have ih:=pB (p:=p) (xs:=xs) (ys:=ys) (by simpa using h) fun i a b ha hb=>h1 (i+1) a b (by simpa using ha) (by simpa using hb)
  have h0:=h1 0 x y rfl rfl
  simp only[List.countP_cons]
  cases hy:p y
  ·simp;omega
  ·simp[h0 hy];exact ih
theorem d8a {c c':Chart} (hI:Inv l c) (hI':Inv l c') (h:Late l c c') {k:Nat} (hk:k<l.length) (h1:iN c.now (B4 c.dues k)=true)
  (h2:c'.dues[k]?=some 0∨∃ y,c'.dues[k]?=some y∧c.now<y):mA c'.now c'.dues<mA c.now c.dues:=by
 have D7:c.dues.length=c'.dues.length:=by rw[hI.dues,hI'.dues]
 rw[h.now]
 have no0:iN c.now 0=false:=rfl
 have noy:∀ y,c.now<y→iN c.now y=false:=fun y hy=>by simp[iN,A6,A2,B5,A0];omega
 refine b2w (k:=k) D7 (fun i x y hx hy hp=>?_) ?_
 ·rcases h.dues i with e | e | ⟨z,e1,e2,_⟩
  ·rw[hx,hy] at e;simp only[Option.some.injEq] at e;rw[←e];exact hp
  ·rw[hy] at e;simp only[Option.some.injEq] at e;rw[e,no0] at hp;simp at hp
  ·rw[hy] at e1;simp only[Option.some.injEq] at e1;rw[e1,noy z e2] at hp;simp at hp
 ·have M9:k<c.dues.length:=by rw[hI.dues];exact hk
  rw[O1 M9] at h1
  rcases h2 with e | ⟨y,e1,e2⟩
  ·exact⟨c.dues[k],0,by simp[M9],e,h1,no0⟩
  ·exact⟨c.dues[k],y,by simp[M9],e1,h1,noy y e2⟩
def DueOk (l:List Step) (c:Chart):Prop:=∀ i:Nat,i<l.length→B4 c.dues i≠0→dueK l i
theorem DueOk.late {c c':Chart} (h:DueOk l c) (hI:Inv l c) (hI':Inv l c') (g:Late l c c'):DueOk l c':=fun i hi hn=>by
 have h1:i<c.dues.length:=by rw[hI.dues];exact hi
 have h2:i<c'.dues.length:=by rw[hI'.dues];exact hi
 rw[O1 h2] at hn
 rcases g.dues i with e | e | ⟨y,_,_,e⟩
 ·simp only[h1,h2,List.getElem?_eq_getElem,Option.some.injEq] at e
  exact h i hi (by rw[O1 h1,←e];exact hn)
 ·simp only[h2,List.getElem?_eq_getElem,Option.some.injEq] at e
  exact absurd e hn
 ·exact e
def cN (l:List Step) (d:Nat) (c:Chart):Chart:=bM (O7 l (B4 (C0 d 0 l) 0).toNat) { c with dues:=c.dues.set d 0 }
def cL (l:List Step) (d:Nat) (c:Chart):Chart:=
 if A0 (C2 l d) 6=true then J4 l false d c else J4 l true (B4 (C0 d 0 l) 1).toNat (cN l d c)
def fO (l:List Step):Nat→Chart→Chart
 | 0,c=>c
 | f+1,c=>if A0 c.status 1=true then (if A3 (oD c.dues c.now) 0=true then c else fO l f (cL l (oD c.dues c.now).toNat c)) else c
theorem Wf.guard (w:Wf l) {k:Nat} (hk:k<l.length) (h:C2 l k=8):∃ a b:Nat,B4 (C0 k 0 l) 0=a∧B4 (C0 k 0 l) 1=b∧a<l.length∧b<l.length∧2≤(C0 k 0 l).length:=by
 have hn:=w.kidsN hk
 rw[h] at hn
 have e:T3 8=(2,2):=rfl
 rw[e] at hn
 simp only[A5,A6,B5,Bool.and_eq_true,decide_eq_true_eq] at hn
 obtain⟨a,h1,h2,_⟩:=w.kid (oA (show 0<(C0 k 0 l).length by omega))
 obtain⟨b,h3,h4,_⟩:=w.kid (oA (show 1<(C0 k 0 l).length by omega))
 exact⟨a,b,h1,h3,h2,h4,by omega⟩
theorem Nn (w:Wf l) {c:Chart} (hI:Inv l c) (hd:DueOk l c) {d:Nat} (R3:d<l.length) (h1:iN c.now (B4 c.dues d)=true):
  Inv l (cL l d c)∧DueOk l (cL l d c)∧mA (cL l d c).now (cL l d c).dues<mA c.now c.dues∧(cL l d c).now=c.now:=by
 have hn:B4 c.dues d≠0:=fun e=>by rw[e] at h1;simp[iN,A6,A2,A0] at h1
 have key:∀ {c':Chart},Inv l c'→Late l c c'→(c'.dues[d]?=some 0∨∃ y,c'.dues[d]?=some y∧c.now<y)→Inv l c'∧DueOk l c'∧mA c'.now c'.dues<mA c.now c.dues∧c'.now=c.now:=
  fun a b e=>⟨a,hd.late hI a b,d8a hI a b R3 h1 e,b.now⟩
 unfold cL
 split
 ·exact key (As w _ _ _ hI R3) (c9h w _ _ _ hI R3) (d1z w d c hI R3)
 ·rename_i q
  have h8:C2 l d=8:=by
   rcases hd d R3 hn with h | h
   ·exact absurd (by rw[h];rfl) q
   ·exact h
  obtain⟨a,b,e1,e2,e3,e4,_⟩:=w.guard R3 h8
  rw[e2,Int.toNat_natCast]
  have i1:Inv l (cN l d c):=(hI.due d 0).idle _
  have l0:Late l c { c with dues:=c.dues.set d 0 }:=⟨rfl,fun i=>by
   simp only[List.getElem?_set]
   split
   ·split
    ·exact .inr (.inl rfl)
    ·rename_i e _;subst e;exact .inl (by rw[List.getElem?_eq_none (by omega)])
   ·exact .inl rfl⟩
  have l1:Late l c (cN l d c):=l0.trans (.idle _)
  have l2:=c9h w true b _ i1 e4
  refine key (As w _ _ _ i1 e4) (l1.trans l2) ?_
  have eO:d<c.dues.length:=by rw[hI.dues];exact R3
  have z:(cN l d c).dues[d]?=some 0:=by
   rcases Dh (O7 l (B4 (C0 d 0 l) 0).toNat) (c.dues.set d 0) d with h | h
   ·have:(cN l d c).dues[d]?=(c.dues.set d 0)[d]?:=h
    rw[this];simp[eO]
   ·exact h
  rcases l2.dues d with e | e | ⟨y,y1,y2,_⟩
  ·exact .inl (e.trans z)
  ·exact .inl e
  ·exact .inr ⟨y,y1,by rw[←l1.now];exact y2⟩
end
attribute [local congr] O3
attribute [local simp] L9 M4 K0 L6 J6 L4 J8 J1 K5 I6 Y3 cQ gE
theorem b2z {l:List Step} {c:Chart}:∀ (f i:Nat),cG l c f i=true→∀ k,i≤k→k<i+f→lZ l c k=true
 | 0,i,_,k,h1,h2=>by omega
 | f+1,i,h,k,h1,h2=>by
  unfold cG at h
  split at h
  ·rename_i q
   rcases Nat.lt_or_ge i k with h' | h'
   ·exact b2z f (i+1) h k h' (by omega)
   ·have:k=i:=by omega
    rw[this];exact q
  ·simp at h
theorem Vn {l:List Step} {c:Chart} (h:chartM l c=0):DueOk l c:=by
 have ha:=Qy h
 obtain⟨_,_,_,_,z5,z6⟩:=Dc ha
 unfold chartM at h
 rw[ha] at h
 simp only[show A2 (A0 0 0)=false from rfl,Bool.false_eq_true,if_false] at h
 split at h
 ·simp at h
 have ho:=jT (by omega) h
 have ho:tQ l c=true:=by cases e:tQ l c<;>simp[e,A2] at ho ⊢
 intro i hi hn
 unfold tQ at ho
 split at ho
 ·simp only[A6,Bool.and_eq_true] at ho
  have h2:=ho.2
  simp only[R9,A2,Bool.not_eq_true',rY] at h2
  rw[List.any_eq_false] at h2
  have:=h2 (B4 c.dues i) (oA (by omega))
  simp[cR,A2,A5,A6,B5] at this
  omega
 ·split at ho
  ·rename_i q
   have hf:=b2z l.length 0 q i (Nat.zero_le _) (by omega)
   have hd:A2 (A0 (B4 c.dues i) 0)=true:=by simp[A2,A0,hn]
   unfold lZ at hf
   rw[hd] at hf
   split at hf
   ·simp at hf
   split at hf
   ·simp[A6,A0,hn] at hf
   ·unfold eN at hf
    split at hf
    ·split at hf<;>simp[W4] at hf
    split at hf
    ·split at hf<;>simp[W4] at hf
    split at hf
    ·rename_i q8
     exact .inr (by simpa[A0] using q8)
    split at hf
    ·rename_i q6
     exact .inl (by simpa[A0] using q6)
    split at hf
    ·simp at hf
    ·simp[W4] at hf
  ·simp at ho
theorem d9u (dues:List Int) (hd:dues.length<2 ^ 62) (now:Int):fo 198 [A (iS dues),A (vI now)]=some (R (vI (oD dues now))):=by
 have h:=iJ (σ:=Int) (f:=198) (id:=0) (code:=C1 f198 0) dues (fun _ d=>d=-1∨∃ k:Nat,d=k∧k<dues.length)
  (fun i d=>⟨37,[(0,iS dues),(1,vI now),(5,vI d),(8,iS dues),(9,vI dues.length),(10,vI i)],[],2⟩) (fun (i:Nat) (d:Int) (x:Int)=>if pG now dues d x=true then (i:Int) else d)
  (fun d=>⟨37,[(0,iS dues),(1,vI now),(5,vI d),(8,iS dues),(9,vI dues.length),(10,vI dues.length),(11,vB false)],[],2⟩)
 have h2:=h ?_ ?_ (-1) (.inl rfl)
 ·refine e6o (dues.length+1) ?_
  simp -dsimp [f198] at h2
  simp (maxSteps:=1000000) +contextual -dsimp [f198,h2,oD]
 ·intro k d _
  have A1:=cF dues.length
  simp +contextual -dsimp [f198,A1]
 ·intro k i d hi hI
  have A1:=U2 hi
  have hw:=S6 hi hd
  generalize hs:((i+1:Nat):Int)=i1 at *
  refine⟨?_,?_⟩
  ·rcases hI with rfl | ⟨j,rfl,hj⟩
   ·have e:A3 (-1) 0=true:=rfl
    unfold pG
    rw[e]
    cases q1:A0 dues[i] 0<;>cases q2:B5 dues[i] now <;>
     simp (maxSteps:=1000000) +contextual -dsimp [f198,A1,hi,hw,hs,q1,q2,e]
   ·have e:A3 (j:Int) 0=false:=C9 (by omega)
    unfold pG
    rw[e,O1 hj]
    cases q1:A0 dues[i] 0<;>cases q2:B5 dues[i] now<;>cases q3:A3 dues[i] dues[j] <;>
     simp (maxSteps:=1000000) +contextual -dsimp [f198,A1,hi,hj,hw,hs,q1,q2,q3,e]
  ·split
   ·exact .inr ⟨i,rfl,hi⟩
   ·exact hI
theorem e1b (c:Chart) (hd:c.dues.length<2 ^ 62):fo 195 [A (.ipt (cT c))]=some (R (vI (oD c.dues c.now))):=by
 have h:=iJ (σ:=Int) (f:=195) (id:=0) (code:=C1 f195 0) c.dues (fun _ d=>d=-1∨∃ k:Nat,d=k∧k<c.dues.length)
  (fun i d=>⟨59,[(0,.ipt (cT c)),(3,vI d),(4,vI i)],[],2⟩) (fun (i:Nat) (d:Int) (x:Int)=>if pG c.now c.dues d x=true then (i:Int) else d)
  (fun d=>⟨59,[(0,.ipt (cT c)),(3,vI d),(4,vI c.dues.length),(11,vB false)],[],2⟩)
 have h2:=h ?_ ?_ (-1) (.inl rfl)
 ·refine d1p (c.dues.length+1) ?_
  simp -dsimp [f195] at h2
  simp (maxSteps:=1000000) +contextual -dsimp [f195,h2,oD]
 ·intro k d _
  have A1:=cF c.dues.length
  simp +contextual -dsimp [f195,A1]
 ·intro k i d hi hI
  have A1:=U2 hi
  have hw:=S6 hi hd
  generalize hs:((i+1:Nat):Int)=i1 at *
  refine⟨?_,?_⟩
  ·rcases hI with rfl | ⟨j,rfl,hj⟩
   ·have e:A3 (-1) 0=true:=rfl
    unfold pG
    rw[e]
    cases q1:A0 c.dues[i] 0<;>cases q2:B5 c.dues[i] c.now <;>
     simp (maxSteps:=1000000) +contextual -dsimp [f195,A1,hi,hw,hs,q1,q2,e]
   ·have e:A3 (j:Int) 0=false:=C9 (by omega)
    unfold pG
    rw[e,O1 hj]
    cases q1:A0 c.dues[i] 0<;>cases q2:B5 c.dues[i] c.now<;>cases q3:A3 c.dues[i] c.dues[j] <;>
     simp (maxSteps:=1000000) +contextual -dsimp [f195,A1,hi,hj,hw,hs,q1,q2,q3,e]
  ·split
   ·exact .inr ⟨i,rfl,hi⟩
   ·exact hI
def xN (acts:List Int) (word:Int) (i:Nat) (s:Step):Bool:=A6 (A6 (A0 s.kind 5) (A0 s.arg word)) (A0 (B4 acts i) 1)
def fF (acts:List Int) (word:Int) (i:Nat) (_:Unit) (s:Step):Nat ⊕ Unit:=if xN acts word i s=true then .inl i else .inr ()
def vG (l:List Step) (c:Chart):Nat ⊕ Unit→Int×Chart
 | .inl k=>(0,J4 l false k c)
 | .inr _=>(4,gG)
def lD (l:List Step) (c:Chart) (word:Int):Int:=C5 (chartM l c) (ci (A2 (A5 word 0 9)) 3)
def cX (l:List Step) (c:Chart) (word:Int):Int×Chart:=if A2 (A0 (lD l c word) 0)=true then (lD l c word,gG) else vG l c (Q7 (fF c.acts word) 0 () l)
abbrev mR:List T:=[vI 0,vI 0,vI 0,.own 2 [],.own 2 [],.own 2 []]
theorem d8t {l:List Step} (w:Wf l) (c:Chart) (hI:Inv l c) (word:Int):
  iK 0 (fun _=>⟨63,[(0,.sl 124 (l.map (sT 219))),(2,vI word),(4,.ptr 4 1 [] 0),(6,.ptr 6 1 [] 0),(24,.sl 124 (l.map (sT 219))),(25,vI l.length),(26,vI l.length),(27,vB false)],[(4,⟨1,1,true,cT c⟩),(6,⟨1,1,true,mR⟩)],2⟩)
   (fun k st=>st=⟨63,[(6,.ptr 6 1 [] 0)],[(6,⟨1,1,true,vI 0::cO (J4 l false k c)⟩),(52,⟨1,1,true,[.sl 124 (l.map (sT 219)),vI (J4 l false k c).status,vI (J4 l false k c).now,.dead,.dead,.dead]⟩)],2⟩)
   (B7 E (orc E) (126:Nat) (l.length+1) (C1 f126 0) ⟨63,[(0,.sl 124 (l.map (sT 219))),(2,vI word),(4,.ptr 4 1 [] 0),(6,.ptr 6 1 [] 0),(24,.sl 124 (l.map (sT 219))),(25,vI l.length),(26,vI (0:Nat))],[(4,⟨1,1,true,cT c⟩),(6,⟨1,1,true,mR⟩)],2⟩)
   (Q7 (fF c.acts word) 0 () l):=by
 have h:=sA (f:=126) (id:=0) (code:=C1 f126 0) l (fun _ _=>True)
  (fun i (_:Unit)=>⟨63,[(0,.sl 124 (l.map (sT 219))),(2,vI word),(4,.ptr 4 1 [] 0),(6,.ptr 6 1 [] 0),(24,.sl 124 (l.map (sT 219))),(25,vI l.length),(26,vI i)],[(4,⟨1,1,true,cT c⟩),(6,⟨1,1,true,mR⟩)],2⟩)
  (fF c.acts word) (fun _=>⟨63,[(0,.sl 124 (l.map (sT 219))),(2,vI word),(4,.ptr 4 1 [] 0),(6,.ptr 6 1 [] 0),(24,.sl 124 (l.map (sT 219))),(25,vI l.length),(26,vI l.length),(27,vB false)],[(4,⟨1,1,true,cT c⟩),(6,⟨1,1,true,mR⟩)],2⟩)
  (fun k st=>st=⟨63,[(6,.ptr 6 1 [] 0)],[(6,⟨1,1,true,vI 0::cO (J4 l false k c)⟩),(52,⟨1,1,true,[.sl 124 (l.map (sT 219)),vI (J4 l false k c).status,vI (J4 l false k c).now,.dead,.dead,.dead]⟩)],2⟩)
 have D8:=w.ok.le
 refine h ?_ ?_ l 0 () rfl (Nat.zero_le _) trivial
 ·intro k _ _
  have A1:=cF l.length
  simp +contextual -dsimp [f126,A1]
 ·intro k i _ hi _
  have A1:=U2 hi
  have hw:=S6 hi (by omega)
  have K8:i<c.acts.length:=by rw[hI.acts];exact hi
  have hs:=O1 K8
  refine⟨fun s' hg=>⟨?_,trivial⟩,fun e hg=>?_⟩
  ·unfold fF xN at hg
   rw[hs] at hg
   generalize aA:((i+1:Nat):Int)=i1 at *
   cases q1:A0 (l[i]).kind 5
   ·simp (maxSteps:=1000000) +contextual -dsimp [f126,A1,hi,hw,aA,q1,List.set]
   ·cases q2:A0 (l[i]).arg word
    ·simp (maxSteps:=1000000) +contextual -dsimp [f126,A1,hi,hw,aA,q1,q2,List.set]
    ·cases q3:A0 c.acts[i] 1
     ·simp (maxSteps:=1000000) +contextual -dsimp [f126,A1,hi,K8,hw,aA,q1,q2,q3,List.set]
     ·rw[q1,q2,q3] at hg;simp[A6] at hg
  ·unfold fF xN at hg
   rw[hs] at hg
   split at hg
   ·rename_i q
    simp only[Sum.inl.injEq] at hg;subst hg
    simp only[A6,Bool.and_eq_true] at q
    obtain⟨⟨q1,q2⟩,q3⟩:=q
    have g1:=Ll c (hI.few w)
    obtain⟨g2,_⟩:=b9m w hI i hi
    refine⟨_,?_,rfl⟩
    generalize J4 l false i c=c' at *
    simp (maxSteps:=1000000) +contextual -dsimp [f126,A1,hi,K8,q1,q2,q3,g1,g2,List.set]
   ·simp at hg
theorem e1g (l:List Step) (hl:l.length<2 ^ 62) (hf:∀ s,s∈l→FitS s) (c:Chart) (hc:FitC c) (word:Int):
  fo 126 [A (.sl 124 (l.map (sT 219))),A (.agg (cT c)),A (vI word)]=some (RR (cX l c word)):=by
 have g1:=Ud l hl hf c hc
 have g3:=Y8 (chartM l c) (ci (A2 (A5 word 0 9)) 3)
 rw[show C5 (chartM l c) (ci (A2 (A5 word 0 9)) 3)=lD l c word from rfl] at g3
 unfold cX
 cases q:A0 (lD l c word) 0
 ·refine Nb 1 ?_
  simp (maxSteps:=1000000) +contextual -dsimp [f126,g1,g3,H5,O4,q,gG,List.set]
 ·have q0:lD l c word=0:=by simpa[A0] using q
  obtain⟨z1,z2⟩:=P9 q0
  obtain⟨hI,w,_,_⟩:=jU z1
  have h:=d8t w c hI word
  have q1:A0 0 0=true:=rfl
  rw[q0] at g3
  have n0:A2 true=false:=rfl
  rw[n0,if_neg (by simp)]
  cases e:Q7 (fF c.acts word) 0 () l with
  | inr s=>
   rw[e] at h
   simp only[iK] at h
   simp -dsimp [f126] at h
   refine Nb (l.length+1) ?_
   simp (maxSteps:=1000000) +contextual -dsimp [f126,g1,g3,h,H5,O4,q1,vG,gG,List.set]
  | inl k=>
   rw[e] at h
   simp only[iK] at h
   obtain⟨st,h1,rfl⟩:=h
   simp only[vG]
   generalize J4 l false k c=c' at *
   simp -dsimp [f126] at h1
   refine Nb (l.length+1) ?_
   simp (maxSteps:=1000000) +contextual -dsimp [f126,g1,g3,h1,H5,O4,q1,List.set]
theorem d7r {l:List Step} (w:Wf l) (c:Chart) (hI:Inv l c) (word:Int):
  iK 0 (fun _=>⟨57,[(0,.sl 124 (l.map (sT 219))),(2,vI word),(4,.ptr 4 1 [] 0),(6,.ptr 6 1 [] 0),(8,vI l.length),(23,vB false)],[(4,⟨1,1,true,cT c⟩),(6,⟨1,1,true,mR⟩)],2⟩)
   (fun k st=>st=⟨57,[(6,.ptr 6 1 [] 0)],[(6,⟨1,1,true,vI 0::cO (J4 l false k c)⟩),(9,⟨1,1,true,[vI (J4 l false k c).status,vI (J4 l false k c).now,.dead,.dead,.dead]⟩)],2⟩)
   (B7 E (orc E) (73:Nat) (l.length+1) (C1 f73 0) ⟨57,[(0,.sl 124 (l.map (sT 219))),(2,vI word),(4,.ptr 4 1 [] 0),(6,.ptr 6 1 [] 0),(8,vI (0:Nat))],[(4,⟨1,1,true,cT c⟩),(6,⟨1,1,true,mR⟩)],2⟩)
   (Q7 (fF c.acts word) 0 () l):=by
 have h:=sA (f:=73) (id:=0) (code:=C1 f73 0) l (fun _ _=>True)
  (fun i (_:Unit)=>⟨57,[(0,.sl 124 (l.map (sT 219))),(2,vI word),(4,.ptr 4 1 [] 0),(6,.ptr 6 1 [] 0),(8,vI i)],[(4,⟨1,1,true,cT c⟩),(6,⟨1,1,true,mR⟩)],2⟩)
  (fF c.acts word) (fun _=>⟨57,[(0,.sl 124 (l.map (sT 219))),(2,vI word),(4,.ptr 4 1 [] 0),(6,.ptr 6 1 [] 0),(8,vI l.length),(23,vB false)],[(4,⟨1,1,true,cT c⟩),(6,⟨1,1,true,mR⟩)],2⟩)
  (fun k st=>st=⟨57,[(6,.ptr 6 1 [] 0)],[(6,⟨1,1,true,vI 0::cO (J4 l false k c)⟩),(9,⟨1,1,true,[vI (J4 l false k c).status,vI (J4 l false k c).now,.dead,.dead,.dead]⟩)],2⟩)
 have D8:=w.ok.le
 refine h ?_ ?_ l 0 () rfl (Nat.zero_le _) trivial
 ·intro k _ _
  have A1:=cF l.length
  simp +contextual -dsimp [f73,A1]
 ·intro k i _ hi _
  have A1:=U2 hi
  have hw:=S6 hi (by omega)
  have K8:i<c.acts.length:=by rw[hI.acts];exact hi
  have hs:=O1 K8
  refine⟨fun s' hg=>⟨?_,trivial⟩,fun e hg=>?_⟩
  ·unfold fF xN at hg
   rw[hs] at hg
   generalize aA:((i+1:Nat):Int)=i1 at *
   cases q1:A0 (l[i]).kind 5
   ·simp (maxSteps:=1000000) +contextual -dsimp [f73,A1,hi,hw,aA,q1,List.set]
   ·cases q2:A0 (l[i]).arg word
    ·simp (maxSteps:=1000000) +contextual -dsimp [f73,A1,hi,hw,aA,q1,q2,List.set]
    ·cases q3:A0 c.acts[i] 1
     ·simp (maxSteps:=1000000) +contextual -dsimp [f73,A1,hi,K8,hw,aA,q1,q2,q3,List.set]
     ·rw[q1,q2,q3] at hg;simp[A6] at hg
  ·unfold fF xN at hg
   rw[hs] at hg
   split at hg
   ·rename_i q
    simp only[Sum.inl.injEq] at hg;subst hg
    simp only[A6,Bool.and_eq_true] at q
    obtain⟨⟨q1,q2⟩,q3⟩:=q
    have g1:=c1x c (hI.few w)
    have g2:=b8k w hI i hi
    refine⟨_,?_,rfl⟩
    generalize J4 l false i c=c' at *
    simp (maxSteps:=1000000) +contextual -dsimp [f73,A1,hi,K8,q1,q2,q3,g1,g2,List.set]
   ·simp at hg
theorem e0e (l:List Step) (hl:l.length<2 ^ 62) (hf:qZ l) (c:Chart) (word:Int):
  fo 73 [A (.sl 124 (l.map (sT 219))),A (.agg (cT c)),A (vI word)]=some (RR (cX l c word)):=by
 have g1:=Wu l hl hf c
 rw[a8p] at g1
 unfold cX
 cases q:A0 (chartM l c) 0
 ·have e:lD l c word=chartM l c:=by simp[lD,C5,q]
  have gb:=wK (chartM l c)
  rw[e,q]
  refine He 1 ?_
  simp (maxSteps:=1000000) +contextual -dsimp [f73,g1,gb,q,List.set]
 ·have q0:chartM l c=0:=by simpa[A0] using q
  obtain⟨hI,w,_,_⟩:=jU q0
  have e:lD l c word=ci (A2 (A5 word 0 9)) 3:=by simp[lD,C5,q]
  rw[e]
  cases r:A5 word 0 9
  ·have gb:=wK 3
   have n3:A2 (A0 (ci (A2 false) 3) 0)=true:=rfl
   rw[n3,if_pos rfl]
   refine He 1 ?_
   simp (maxSteps:=1000000) +contextual -dsimp [f73,g1,gb,q,r,G0,List.set]
   rfl
  ·have gb:=wK 4
   have n3:A2 (A0 (ci (A2 true) 3) 0)=false:=rfl
   rw[n3,if_neg (by simp)]
   have h:=d7r w c hI word
   cases e:Q7 (fF c.acts word) 0 () l with
   | inr s=>
    rw[e] at h
    simp only[iK] at h
    simp -dsimp [f73] at h
    refine He (l.length+1) ?_
    simp (maxSteps:=1000000) +contextual -dsimp [f73,g1,gb,h,G0,q,r,vG,List.set]
   | inl k=>
    rw[e] at h
    simp only[iK] at h
    obtain⟨st,h1,rfl⟩:=h
    simp only[vG]
    generalize J4 l false k c=c' at *
    simp -dsimp [f73] at h1
    refine He (l.length+1) ?_
    simp (maxSteps:=1000000) +contextual -dsimp [f73,g1,h1,G0,q,r,List.set]
end Go.TM.Ft
