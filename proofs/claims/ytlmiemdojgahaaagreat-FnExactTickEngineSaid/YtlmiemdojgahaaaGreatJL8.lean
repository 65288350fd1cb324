/- What functions of the program come to, by the machine. -/
import Derived.Test.YtlmiemdojgahaaaGreatJL7
set_option linter.unusedSimpArgs false
set_option linter.unusedVariables false
set_option maxHeartbeats 8000000
namespace Go.TM.Ft
open Go Go.TM Go.Proofs Go.Proofs.Tryz
set_option maxRecDepth 20000
attribute [local congr] K9
attribute [local simp] J8 K0 J0 J9 H3 J6 H4 G4 H5 G1
theorem FitP.x {p:List Step} (h:FitP p):b5c p:=fun s hs=>⟨(h.steps s hs).name,(h.steps s hs).cond,(h.steps s hs).expr⟩
def a2w:List (List Step)→Int
 | []=>0
 | p::r=>if A0 (eqI (Q7 p) 0)=true then Q7 p else a2w r
theorem f5y (all:List (List Step)) (hall:all.length≤1000) (hf:∀ p,p∈all→FitP p):∀ (rest:List (List Step)) (i:Nat),all.drop i=rest→
    A5 E (orc E) (181:Nat) (rest.length+1) (B3 f181 0) ⟨28,[(0,.sl 160 (all.map (pT 124 219))),(3,vI i)],[],2⟩=
    (if eqI (a2w rest) 0 = true then some (.exit 0, ⟨28, [(0, .sl 160 (all.map (pT 124 219))), (3, vI (i + rest.length : Nat)), (16, vB false)], [], 2⟩)
     else some (.ret,⟨28,[(2,vI (a2w rest))],[],2⟩))
  | [],i,h=>by
    have hge:all.length≤i:=by simpa using h
    have hlt:ltI (i:Int) (all.length:Int)=false:=B7 (by omega)
    rw [C2]
    simp +contextual -dsimp [f181,hlt,a2w,C1]
  | s::rest,i,h=>by
    obtain ⟨hi,hc,hr⟩:=C8 h
    have hlt:ltI (i:Int) (all.length:Int)=true:=C5 (by omega)
    have hw:IntKind.i64.wrap ((i:Int)+1)=((i+1:Nat):Int):=by rw [A6] <;> omega
    have he:i+1+rest.length=i+(rest.length+1):=by omega
    have hs:=hf s (by rw [← hc]; exact List.getElem_mem _)
    have g:=d3l s hs.len hs.x
    cases q:eqI (Q7 s) 0
    · have hm : a2w (s :: rest) = Q7 s := by simp [a2w, q, A0]
      rw [hm,q,if_neg (by simp)]
      refine D6 ?_ (by simp)
      simp (maxSteps:=1000000) +contextual -dsimp [f181,hlt,hi,hc,g,q]
    · have ih := f5y all hall hf rest (i + 1) hr
      rw [he] at ih
      have hm:a2w (s::rest)=a2w rest:=by simp [a2w,q,A0]
      rw [hm]
      refine C0 ?_ (by simpa only [List.length_cons] using ih)
      simp (maxSteps:=1000000) +contextual -dsimp [f181,hlt,hi,hc,hw,g,q]
def a8u (ps:List (List Step)):Int:=if orB (ltI ps.length 1) (ltI 3 ps.length)=true then 2 else a2w ps
theorem f9u (ps:List (List Step)) (hps:ps.length < 2 ^ 62) (hf:∀ p,p∈ps→FitP p):fo 181 [A (.sl 160 (ps.map (pT 124 219)))]=some (R (vI (a8u ps))):=by
 unfold a8u
 cases c1:orB (ltI ps.length 1) (ltI 3 ps.length)
 ·have hl:ps.length≤1000:=by simp [orB,ltI] at c1; omega
  have hlp:=f5y ps hl hf ps 0 rfl
  refine d9y (ps.length+1) ?_
  simp -dsimp [f181] at hlp
  cases c2:eqI (a2w ps) 0
  ·rw [c2] at hlp
   simp (maxSteps:=1000000) +contextual -dsimp [f181,c1,hlp]
  ·rw [c2] at hlp
   have e0:a2w ps=0:=by simpa [eqI] using c2
   simp (maxSteps:=1000000) +contextual -dsimp [f181,c1,e0,hlp]
 ·refine d9y 1 ?_
  simp (maxSteps:=1000000) +contextual -dsimp [f181,c1]
def a6q (e:Engine) (x:Inst):Int:=
 if A0 (inR x.proc 0 ((e.procs.length:Int) - 1))=true then 3
 else if A0 (eqI (a9b (stepsOf e x) x.chart) 0)=true then a9b (stepsOf e x) x.chart
 else if A0 (eqI x.chart.now e.now)=true then 9 else 0
def a2x (e:Engine):List Inst→Int
 | []=>0
 | x::r=>if eqI (a6q e x) 0=true then a2x e r else a6q e x
theorem f5z (e:Engine) (tl:List T) (hf:FitE e):∀ (rest:List Inst) (i:Nat),e.insts.drop i=rest→
    A5 E (orc E) (107:Nat) (rest.length+1) (B3 f107 0) ⟨82,[(0,.ipt (.sl 160 (e.procs.map (pT 124 219))::.sl 163 (e.insts.map xT)::vI e.now::tl)),(4,vI i)],[],2⟩=
    (if eqI (a2x e rest) 0 = true then some (.exit 0, ⟨82, [(0, .ipt (.sl 160 (e.procs.map (pT 124 219)) :: .sl 163 (e.insts.map xT) :: vI e.now :: tl)), (4, vI (i + rest.length : Nat)), (33, vB false)], [], 2⟩)
     else some (.ret,⟨82,[(2,vI (a2x e rest))],[],2⟩))
  | [],i,h=>by
    have hge:e.insts.length≤i:=by simpa using h
    have hlt:ltI (i:Int) (e.insts.length:Int)=false:=B7 (by omega)
    rw [C2]
    simp +contextual -dsimp [f107,hlt,a2x,C1]
  | x::rest,i,h=>by
    obtain ⟨hi,hc,hr⟩:=C8 h
    have hni:=hf.ni
    have hnp:=hf.np
    have hlt:ltI (i:Int) (e.insts.length:Int)=true:=C5 (by omega)
    have hw:IntKind.i64.wrap ((i:Int)+1)=((i+1:Nat):Int):=by rw [A6] <;> omega
    have hw2:IntKind.i64.wrap ((e.procs.length:Int) - 1)=(e.procs.length:Int) - 1:=by rw [A6] <;> omega
    have he:i+1+rest.length=i+(rest.length+1):=by omega
    have out:∀ k:Int,a6q e x=k→eqI k 0=false→a2x e (x::rest)=k:=fun k h1 h2=>by simp [a2x,h1,h2]
    cases q1:inR x.proc 0 ((e.procs.length:Int) - 1)
    · have hm := out 3 (by simp [a6q, q1, A0]) rfl
      have h30:eqI (3:Int) 0=false:=rfl
      rw [hm,h30,if_neg (by simp)]
      refine D6 ?_ (by simp)
      simp (maxSteps:=1000000) +contextual -dsimp [f107,hlt,hi,hc,hw2,G0,q1]
    · obtain ⟨a, hx, ha⟩ : ∃ a : Nat, x.proc = a ∧ a < e.procs.length := by
        simp [inR,A2,leI] at q1
        obtain ⟨k,hk⟩:=Int.eq_ofNat_of_zero_le q1.1
        exact ⟨k,hk,by omega⟩
      have q1':=q1
      rw [hx] at q1'
      have hp:=hf.procs (e.procs[a]) (List.getElem_mem _)
      have e2:stepsOf e x=e.procs[a]:=by simp [stepsOf,hx,ha]
      have g2:=g2p (e.procs[a]) hp.len hp.x x.chart
      cases q2:eqI (a9b (e.procs[a]) x.chart) 0
      · have hm := out (a9b (e.procs[a]) x.chart) (by simp [a6q, q1, e2, q2, A0]) q2
        rw [hm,q2,if_neg (by simp)]
        refine D6 ?_ (by simp)
        simp (maxSteps:=1000000) +contextual -dsimp [f107,hlt,hi,hc,hw2,G0,hx,ha,q1',g2,q2]
      · cases q3 : eqI x.chart.now e.now
        · have hm := out 9 (by simp [a6q, q1, e2, q2, q3, A0]) rfl
          have h30:eqI (9:Int) 0=false:=rfl
          rw [hm,h30,if_neg (by simp)]
          refine D6 ?_ (by simp)
          simp (maxSteps:=1000000) +contextual -dsimp [f107,hlt,hi,hc,hw2,G0,hx,ha,q1',g2,q2,q3]
        · have h3 : a6q e x = 0 := by simp [a6q, q1, e2, q2, q3, A0]
          have ih:=f5z e tl hf rest (i+1) hr
          rw [he] at ih
          have hm:a2x e (x::rest)=a2x e rest:=by simp [a2x,h3,C1]
          rw [hm]
          refine C0 ?_ (by simpa only [List.length_cons] using ih)
          simp (maxSteps:=1000000) +contextual -dsimp [f107,hlt,hi,hc,hw,hw2,G0,hx,ha,q1',g2,q2,q3]
def b8o (e:Engine):Int:=
 if ltI 6 e.insts.length=true then 2
 else if A0 (eqI (a8u e.procs) 0)=true then a8u e.procs
 else if A0 (inR e.now 0 1000000)=true then 3
 else a2x e e.insts
theorem f9v (e:Engine) (tl:List T) (hf:FitE e):fo 107 [A (.ipt (.sl 160 (e.procs.map (pT 124 219))::.sl 163 (e.insts.map xT)::vI e.now::tl))]=some (R (vI (b8o e))):=by
 have g1:=f9u e.procs hf.np hf.procs
 have hlp:=f5z e tl hf e.insts 0 rfl
 simp -dsimp [f107] at hlp
 unfold b8o
 refine g6z (e.insts.length+1) ?_
 cases q1:ltI 6 e.insts.length
 ·cases q2:eqI (a8u e.procs) 0
  ·simp (maxSteps:=1000000) +contextual -dsimp [f107,g1,q1,q2]
  ·have e0:a8u e.procs=0:=by simpa [eqI] using q2
   cases q3:inR e.now 0 1000000
   ·simp (maxSteps:=1000000) +contextual -dsimp [f107,a2f,g1,q1,e0,C1,q3]
   ·cases q4:eqI (a2x e e.insts) 0
    ·rw [q4] at hlp
     simp (maxSteps:=1000000) +contextual -dsimp [f107,a2f,g1,q1,e0,C1,q3,hlp]
    ·rw [q4] at hlp
     have e1:a2x e e.insts=0:=by simpa [eqI] using q4
     simp (maxSteps:=1000000) +contextual -dsimp [f107,a2f,g1,q1,e0,C1,q3,e1,hlp]
 ·simp (maxSteps:=1000000) +contextual -dsimp [f107,q1]
end Go.TM.Ft
namespace Go.TM.Ft
open Go Go.TM Go.Proofs Go.Proofs.Tryz
set_option maxRecDepth 20000
theorem d7r (p:Int→Bool):∀ (l:List Int) (i:Nat),leI 0 (D1 p i l)=l.any p
 | [],i=>by simp [D1,leI]
 | x::l,i=>by
  have ih:=d7r p l (i+1)
  unfold D1
  cases h:p x
  ·simp [ih,h]
  ·simp [h,leI]
theorem b0d (p:Int→Bool) (l:List Int):Q4 p l=l.any p:=d7r p l 0
theorem d7s:∀ (l:List Int),a4u l=l.any badV
 | []=>rfl
 | x::l=>by
  unfold a4u
  rw [d7s l]
  cases h:badV x <;> simp [h]
theorem g2q (l:List Int):a8z l=a2k l:=by
 unfold a8z a2k
 rw [d7s,b0d]
 cases eqI l.length 4 <;> cases l.any badV <;> rfl
theorem h4j {l:List Int} {p:Int→Bool}:l.any p=true ↔ ∃ i,i < l.length∧p (A3 l i)=true:=by
 rw [List.any_eq_true]
 constructor
 ·rintro ⟨x,hx,hp⟩
  obtain ⟨i,hi,he⟩:=List.getElem_of_mem hx
  exact ⟨i,hi,by rw [a1a hi,he]; exact hp⟩
 ·rintro ⟨i,hi,hp⟩
  rw [a1a hi] at hp
  exact ⟨_,List.getElem_mem hi,hp⟩
theorem d7t (c:Chart):∀ (f i:Nat),a1z c f i=true ↔ ∃ k,i≤k∧k < i+f∧a9o c k=true
 | 0,i=>by simp [a1z]; omega
 | f+1,i=>by
  unfold a1z
  have ih:=d7t c f (i+1)
  cases h:a9o c i
  ·simp only [Bool.false_eq_true,if_false]
   rw [ih]
   constructor
   ·rintro ⟨k,h1,h2,h3⟩; exact ⟨k,by omega,by omega,h3⟩
   ·rintro ⟨k,h1,h2,h3⟩
    rcases Nat.lt_or_ge i k with h' | h'
    ·exact ⟨k,h',by omega,h3⟩
    ·have e:k=i:=by omega
     subst e; rw [h] at h3; simp at h3
  ·simp only [if_true,true_iff]
   exact ⟨i,Nat.le_refl _,by omega,h⟩
theorem d7u (c:Chart):∀ (f i:Nat) (s:Bool),a5q c f i s=true ↔ s=true∨∃ k,i≤k∧k < i+f∧(A3 c.acts k≠0∨A3 c.dues k≠0)
 | 0,i,s=>by
  simp only [a5q]
  constructor
  ·exact .inl
  ·rintro (h | ⟨k,h1,h2,_⟩)
   ·exact h
   ·omega
 | f+1,i,s=>by
  have ih:=d7u c f (i+1) (b0v c i s)
  unfold a5q
  rw [ih]
  have h1:b0v c i s=true ↔ s=true∨A3 c.acts i≠0∨A3 c.dues i≠0:=by
   simp [b0v,orB,A0,eqI,or_assoc]
  rw [h1]
  constructor
  ·rintro ((h | h) | ⟨k,a,b,h⟩)
   ·exact .inl h
   ·exact .inr ⟨i,Nat.le_refl _,by omega,h⟩
   ·exact .inr ⟨k,by omega,by omega,h⟩
  ·rintro (h | ⟨k,a,b,h⟩)
   ·exact .inl (.inl h)
   ·rcases Nat.lt_or_ge i k with h' | h'
    ·exact .inr ⟨k,h',by omega,h⟩
    ·have e:k=i:=by omega
     subst e; exact .inl (.inr h)
theorem b6l {m:Int} {l:List Int}:smS m l=false ↔ ∃ i,i < l.length∧inR (A3 l i) 0 m=false:=by
 unfold smS
 rw [b0d]
 have:A0 (l.any (a1m m))=false ↔ l.any (a1m m)=true:=by simp [A0]
 rw [this,h4j]
 simp [a1m,A0]
theorem g5u {c:Chart} {n:Nat} (ha:c.acts.length=n) (hd:c.dues.length=n):a1z c n 0=orB (A0 (smS 2 c.acts)) (A0 (smS (c.now+99) c.dues)):=by
 rw [Bool.eq_iff_iff,d7t]
 have e1:orB (A0 (smS 2 c.acts)) (A0 (smS (c.now+99) c.dues))=true ↔ smS 2 c.acts=false∨smS (c.now+99) c.dues=false:=by simp [orB,A0]
 rw [e1,b6l,b6l]
 have e2:∀ k,a9o c k=true ↔ inR (A3 c.acts k) 0 2=false∨inR (A3 c.dues k) 0 (c.now+99)=false:=fun k=>by simp [a9o,orB,A0]
 constructor
 ·rintro ⟨k,_,h2,h3⟩
  rcases (e2 k).1 h3 with h | h
  ·exact .inl ⟨k,by omega,h⟩
  ·exact .inr ⟨k,by omega,h⟩
 ·rintro (⟨k,h2,h3⟩ | ⟨k,h2,h3⟩)
  ·exact ⟨k,Nat.zero_le _,by omega,(e2 k).2 (.inl h3)⟩
  ·exact ⟨k,Nat.zero_le _,by omega,(e2 k).2 (.inr h3)⟩
theorem g2r {c:Chart} {n:Nat} (ha:c.acts.length=n) (hd:c.dues.length=n):a5q c n 0 false=A0 (A2 (smS 0 c.acts) (smS 0 c.dues)):=by
 rw [Bool.eq_iff_iff,d7u]
 have e1:A0 (A2 (smS 0 c.acts) (smS 0 c.dues))=true ↔ smS 0 c.acts=false∨smS 0 c.dues=false:=by
  cases smS 0 c.acts <;> cases smS 0 c.dues <;> simp [A0,A2]
 have e2:∀ x:Int,inR x 0 0=false ↔ x≠0:=fun x=>by
  by_cases h:x=0
  ·simp [inR,A2,leI,h]
  ·have:¬ (0≤x∧x≤0):=by omega
   simp [inR,A2,leI,h]; omega
 rw [e1,b6l,b6l]
 simp only [e2,Bool.false_eq_true,false_or]
 constructor
 ·rintro ⟨k,_,h2,h | h⟩
  ·exact .inl ⟨k,by omega,h⟩
  ·exact .inr ⟨k,by omega,h⟩
 ·rintro (⟨k,h2,h3⟩ | ⟨k,h2,h3⟩)
  ·exact ⟨k,Nat.zero_le _,by omega,.inl h3⟩
  ·exact ⟨k,Nat.zero_le _,by omega,.inr h3⟩
theorem b7m (acts:List Int) (act:Int):∀ (l:List Int) (n:Nat),n < C6 acts act l n ↔ ∃ k,k∈l∧A3 acts k=act
 | [],n=>by simp [C6]
 | x::l,n=>by
  unfold C6
  cases h:eqI (A3 acts x) act
  ·simp only [Bool.false_eq_true,if_false]
   rw [b7m acts act l n]
   have hx:A3 acts x≠act:=by simpa [eqI] using h
   simp [hx]
  ·simp only [if_true]
   have hx:A3 acts x=act:=by simpa [eqI] using h
   have h1:=b7m acts act l (n+1)
   have h2:n+1≤C6 acts act l (n+1):=by
    clear h1 h hx
    have:∀ (l:List Int) (m:Nat),m≤C6 acts act l m:=by
     intro l
     induction l with
     | nil=>intro m; simp [C6]
     | cons y l ih=>
      intro m
      unfold C6
      split
      ·have:=ih (m+1); omega
      ·exact ih m
    exact this l (n+1)
   constructor
   ·intro _; exact ⟨x,by simp,hx⟩
   ·intro _; omega
theorem b3s {p:Int}:∀ {l:List Step} {i:Nat} {k:Int},k∈B5 p i l ↔ ∃ (a:Nat) (h:a < l.length),k=(i+a:Nat)∧(l[a]).parent=p
 | [],i,k=>by simp [B5]
 | x::l,i,k=>by
  have ih:=b3s (p:=p) (l:=l) (i:=i+1) (k:=k)
  have tl:(∃ (a:Nat) (h:a < l.length),k=(i+1+a:Nat)∧(l[a]).parent=p) ↔ ∃ (a:Nat) (h:a < (x::l).length),k=(i+a:Nat)∧((x::l)[a]).parent=p∧0 < a:=by
   constructor
   ·rintro ⟨a,h,h1,h2⟩
    exact ⟨a+1,by simp; omega,by omega,by simpa using h2,by omega⟩
   ·rintro ⟨a,h,h1,h2,h3⟩
    cases a with
    | zero=>omega
    | succ a=>exact ⟨a,by simpa using h,by omega,by simpa using h2⟩
  unfold B5
  cases h:eqI x.parent p
  ·simp only [Bool.false_eq_true,if_false]
   rw [ih,tl]
   constructor
   ·rintro ⟨a,h,h1,h2,_⟩; exact ⟨a,h,h1,h2⟩
   ·rintro ⟨a,ha,h1,h2⟩
    refine ⟨a,ha,h1,h2,?_⟩
    cases a with
    | zero=>simp [eqI] at h; simp at h2; exact absurd h2 h
    | succ a=>omega
  ·simp only [if_true,List.mem_cons]
   rw [ih,tl]
   constructor
   ·rintro (h1 | ⟨a,h,h1,h2,_⟩)
    ·exact ⟨0,by simp,by simpa using h1,by simpa [eqI] using h⟩
    ·exact ⟨a,h,h1,h2⟩
   ·rintro ⟨a,ha,h1,h2⟩
    cases a with
    | zero=>exact .inl (by simpa using h1)
    | succ a=>exact .inr ⟨a+1,ha,h1,h2,by omega⟩
def onM (l:List Step) (c:Chart) (i:Nat):Nat:=C6 c.acts 1 (B5 i 0 l) 0
def ovM (l:List Step) (c:Chart) (i:Nat):Nat:=C6 c.acts 2 (B5 i 0 l) 0
theorem c1y {l:List Step} {c:Chart} {i:Nat}:a9a l c i=false ↔
    (A3 c.acts i≠1∧onM l c i+ovM l c i=0∧A3 c.dues i=0)∨
    (A3 c.acts i=1∧
      (((A8 l i = 1 ∨ A8 l i = 3) ∧ onM l c i = 1 ∧ ovM l c i = 0 ∧ A3 c.dues i = 0) ∨
       (A8 l i=4∧onM l c i≠0∧onM l c i+ovM l c i=(B5 i 0 l).length∧A3 c.dues i=0)∨
       (A8 l i=8∧onM l c i=1∧ovM l c i=0∧(A3 c.dues i≠0 ↔ A3 c.acts (A3 (B5 i 0 l) 0)=1))∨
       (A8 l i=6∧A3 c.dues i≠0)∨
       (A8 l i≠1∧A8 l i≠3∧A8 l i≠4∧A8 l i≠8∧A8 l i≠6∧A8 l i≠7∧A3 c.dues i=0))):=by
  unfold a9a a5k
  rw [show C6 c.acts 1 (B5 i 0 l) 0=onM l c i from rfl,show C6 c.acts 2 (B5 i 0 l) 0=ovM l c i from rfl]
  generalize onM l c i=on
  generalize ovM l c i=ov
  generalize A8 l i=k
  generalize A3 c.acts i=ac
  generalize A3 c.dues i=du
  generalize hks:B5 i 0 l=ks
  generalize A3 c.acts (A3 ks 0)=fa
  by_cases h1:ac=1
  · by_cases k1 : k = 1
    · simp [h1,k1,A0,eqI,orB,ltI]; omega
    by_cases k3:k=3
    · simp [h1,k3,A0,eqI,orB,ltI]; omega
    by_cases k4:k=4
    · simp [h1,k4,A0,eqI,orB,ltI]; omega
    by_cases k8:k=8
    · by_cases d0:du=0 <;> by_cases f0:fa=1 <;> simp [h1,k8,A0,eqI,orB,ltI,eqB,d0,f0] <;> first | omega | (intro _ _; rw [show (du==0)=false by simp [d0],show (fa==1)=false by simp [f0]])
    by_cases k6:k=6
    · simp [h1,k6,A0,eqI,orB]
    by_cases k7:k=7
    · simp [h1,k7,A0,eqI,orB]
    · simp [h1,k1,k3,k4,k8,k6,k7,A0,eqI,orB]
  · simp [h1,A0,eqI,orB,ltI]; omega
theorem c3o {l:List Step} {c:Chart} {i:Nat} (hk:A7 i 0 l=B5 i 0 l):a6s l c i=true ↔
    ¬ (A3 c.acts i=2∧(i=0∨A8 l (parOf l i)≠4))∧
    ((A3 c.acts i ≠ 1 ∧ onM l c i + ovM l c i = 0 ∧ A3 c.dues i = 0) ∨
     (A3 c.acts i = 1 ∧
      (((A8 l i = 1 ∨ A8 l i = 3) ∧ onM l c i = 1 ∧ A3 c.dues i = 0) ∨
       (A8 l i=4∧onM l c i≠0∧onM l c i+ovM l c i=(B5 i 0 l).length∧A3 c.dues i=0)∨
       (A8 l i=8∧onM l c i=1∧(A3 c.dues i≠0 ↔ A3 c.acts (A3 (B5 i 0 l) 0)=1))∨
       (A8 l i=6∧A3 c.dues i≠0)∨
       (A8 l i≠1∧A8 l i≠3∧A8 l i≠4∧A8 l i≠8∧A8 l i≠6∧A8 l i≠7∧A3 c.dues i=0)))):=by
  unfold a6s a2l
  rw [hk]
  rw [show C6 c.acts 1 (B5 i 0 l) 0=onM l c i from rfl,show C6 c.acts 2 (B5 i 0 l) 0=ovM l c i from rfl]
  generalize onM l c i=on
  generalize ovM l c i=ov
  generalize A8 l i=k
  generalize A3 c.acts i=ac
  generalize A3 c.dues i=du
  generalize hks:B5 i 0 l=ks
  generalize A3 c.acts (A3 ks 0)=fa
  generalize A8 l (parOf l i)=pk
  have hb:A2 (eqI ac 2) (orB (eqI i 0) (A0 (eqI pk 4)))=true ↔ ac=2∧(i=0∨pk≠4):=by
    simp [A2,orB,A0,eqI]
  by_cases q:ac=2∧(i=0∨pk≠4)
  · rw [if_pos (hb.2 q)]
    simp [q]
  · rw [if_neg (fun h => q (hb.1 h))]
    simp only [q,not_false_eq_true,true_and]
    by_cases h1:ac=1
    · by_cases k1 : k = 1
      · by_cases o1:on=1 <;> by_cases d0:du=0 <;> simp [h1,k1,A0,eqI,orB,eqB,o1,d0] <;> omega
      by_cases k3:k=3
      · by_cases o1:on=1 <;> by_cases d0:du=0 <;> simp [h1,k3,A0,eqI,orB,eqB,o1,d0] <;> omega
      by_cases k4:k=4
      · by_cases o1:on=0 <;> by_cases o2:on+ov=ks.length <;> by_cases d0:du=0 <;> simp [h1,k4,A0,eqI,orB,eqB,o1,o2,d0] <;> omega
      by_cases k8:k=8
      · by_cases o1:on=1 <;> by_cases d0:du=0 <;> by_cases f0:fa=1 <;> simp [h1,k8,A0,eqI,orB,eqB,o1,d0,f0] <;> first | omega | (rw [show (du==0)=false by simp [d0],show (fa==1)=false by simp [f0]])
      by_cases k6:k=6
      · by_cases d0:du=0 <;> simp [h1,k6,A0,eqI,orB,eqB,d0]
      by_cases k7:k=7
      · simp [h1,k7,A0,eqI,orB]
      · by_cases d0:du=0 <;> simp [h1,k1,k3,k4,k8,k6,k7,A0,eqI,orB,eqB,d0]
    · by_cases d0:du=0 <;> simp [h1,A0,eqI,A2,d0] <;> omega
theorem d1k (l:List Step) (c:Chart):∀ (f i:Nat),a2h l c f i=false ↔ ∀ k,i≤k→k < i+f→a9a l c k=false
 | 0,i=>by simp [a2h]; intro k h1 h2; omega
 | f+1,i=>by
  unfold a2h
  have ih:=d1k l c f (i+1)
  cases h:a9a l c i
  ·simp only [Bool.false_eq_true,if_false]
   rw [ih]
   constructor
   ·intro hh k h1 h2
    rcases Nat.lt_or_ge i k with h' | h'
    ·exact hh k h' (by omega)
    ·have e:k=i:=by omega
     subst e; exact h
   ·intro hh k h1 h2; exact hh k (by omega) (by omega)
  ·simp only [if_true]
   constructor
   ·intro h'; simp at h'
   ·intro hh; have:=hh i (Nat.le_refl _) (by omega); rw [h] at this; simp at this
theorem d1l (l:List Step) (c:Chart):∀ (f i:Nat),a0q l c f i=true ↔ ∀ k,i≤k→k < i+f→a6s l c k=true
 | 0,i=>by simp [a0q]; intro k h1 h2; omega
 | f+1,i=>by
  unfold a0q
  have ih:=d1l l c f (i+1)
  cases h:a6s l c i
  ·simp only [Bool.false_eq_true,if_false]
   constructor
   ·intro h'; simp at h'
   ·intro hh; have:=hh i (Nat.le_refl _) (by omega); rw [h] at this; simp at this
  ·simp only [if_true]
   rw [ih]
   constructor
   ·intro hh k h1 h2
    rcases Nat.lt_or_ge i k with h' | h'
    ·exact hh k h' (by omega)
    ·have e:k=i:=by omega
     subst e; exact h
   ·intro hh k h1 h2; exact hh k (by omega) (by omega)
theorem a4d {l:List Step} (ok:ProcOk l) (i:Nat):A7 i 0 l=B5 i 0 l:=c1v l 0 fun _ s hs=>by
 have:=ok.par0 (by have:=ok.pos; omega)
 have h0:0 < l.length:=by have:=ok.pos; omega
 have e:l[0]?=some l[0]:=by simp
 rw [e] at hs
 have:=Option.some.inj hs
 subst this
 omega
theorem f0l {l:List Step} (ok:ProcOk l) {i:Nat} (hi:i < l.length) (h1:A8 l i≠1) (h3:A8 l i≠3) (h4:A8 l i≠4) (h8:A8 l i≠8):B5 i 0 l=[]:=by
 have hc:=ok.cond i hi
 unfold condFaultM at hc
 have hcode:b0a l i=0:=by
  split at hc
  ·exact hc
  ·rename_i c
   simp [orB,A0,eqI] at c
   exact c.1
 have:=(a0a hcode).1
 have hb:M7 (A8 l i)=(0,0):=by
  unfold M7
  simp [eqI,h1,h3,h4,h8]
 rw [hb] at this
 have hn:A0 (inR (A7 i 0 l).length 0 0)=false:=by
  cases h:A0 (inR (A7 i 0 l).length 0 0)
  ·rfl
  ·rw [h] at this; simp at this
 rw [a4d ok] at hn
 simp [A0,inR,A2,leI] at hn
 exact List.length_eq_zero_iff.1 (by simpa using hn)
theorem g2s {l:List Step} (ok:ProcOk l) {c:Chart} (h0:A3 c.acts 0=1):a0q l c l.length 0=true ↔ a2h l c l.length 0=false:=by
 rw [d1l,d1k]
 constructor
 ·intro hf k _ hk
  have hk:k < l.length:=by omega
  obtain ⟨_,h2⟩:=(c3o (a4d ok k)).1 (hf k (Nat.zero_le _) (by omega))
  have hov:A8 l k≠4→ovM l c k=0:=fun hk4=>by
   rcases Nat.eq_zero_or_pos (ovM l c k) with h | h
   ·exact h
   ·exfalso
    obtain ⟨x,hx,ha⟩:=(b7m _ _ _ _).1 h
    obtain ⟨a,hal,rfl,hp⟩:=b3s.1 hx
    rw [Nat.zero_add] at ha
    have ha0:a≠0:=fun h=>by subst h; simp at ha; rw [h0] at ha; omega
    obtain ⟨h1,_⟩:=(c3o (a4d ok a)).1 (hf a (Nat.zero_le _) (by omega))
    have hpa:parOf l a=k:=by simp [parOf,hal,hp]
    exact h1 ⟨ha,.inr (by rw [hpa]; exact hk4)⟩
  rw [c1y]
  rcases h2 with h | ⟨ha,h⟩
  ·exact .inl h
  ·right
   refine ⟨ha,?_⟩
   rcases h with ⟨hk1,h⟩ | h | ⟨hk8,h⟩ | h | h
   ·exact .inl ⟨hk1,h.1,hov (by omega),h.2⟩
   ·exact .inr (.inl h)
   ·exact .inr (.inr (.inl ⟨hk8,h.1,hov (by omega),h.2⟩))
   ·exact .inr (.inr (.inr (.inl h)))
   ·exact .inr (.inr (.inr (.inr h)))
 ·intro hw k _ hk
  have hk:k < l.length:=by omega
  have h2:=c1y.1 (hw k (Nat.zero_le _) (by omega))
  rw [c3o (a4d ok k)]
  refine ⟨fun ⟨ha,hor⟩=>?_,?_⟩
  ·have hk0:k≠0:=fun h=>by subst h; simp at ha; rw [h0] at ha; omega
   obtain ⟨a,hp,hak⟩:=ok.par k hk (by omega)
   have hal:a < l.length:=by omega
   have hmem:(k:Int)∈B5 a 0 l:=b3s.2 ⟨k,hk,by simp,hp⟩
   have hpa:parOf l k=a:=by simp [parOf,hk,hp]
   have hov:0 < ovM l c a:=(b7m _ _ _ _).2 ⟨k,hmem,ha⟩
   have hw2:=c1y.1 (hw a (Nat.zero_le _) (by omega))
   rw [hpa] at hor
   have hnk:∀ h:B5 a 0 l=[],False:=fun h=>by rw [h] at hmem; simp at hmem
   rcases hw2 with h | ⟨_,⟨_,h⟩ | h | ⟨_,h⟩ | h | h⟩
   ·omega
   ·omega
   ·rcases hor with h' | h'
    ·omega
    ·exact h' h.1
   ·omega
   ·exact hnk (f0l ok hal (by omega) (by omega) (by omega) (by omega))
   ·exact hnk (f0l ok hal h.1 h.2.1 h.2.2.1 h.2.2.2.1)
  ·rcases h2 with h | ⟨ha,h⟩
   ·exact .inl h
   ·right
    refine ⟨ha,?_⟩
    rcases h with ⟨hk1,h⟩ | h | ⟨hk8,h⟩ | h | h
    ·exact .inl ⟨hk1,h.1,h.2.2⟩
    ·exact .inr (.inl h)
    ·exact .inr (.inr (.inl ⟨hk8,h.1,h.2.2⟩))
    ·exact .inr (.inr (.inr (.inl h)))
    ·exact .inr (.inr (.inr (.inr h)))
theorem f9w (l:List Step) (c:Chart):a9b l c=chartM l c:=by
 have hq:¬ (A0 (eqI (0:Int) 0)=true):=by simp [A0,eqI]
 have hff:¬ (false=true):=by simp
 unfold a9b chartM a5j
 rw [c0p,g2q]
 by_cases h1:O3 l=0
 ·have ok:=b7j h1
  rw [h1,if_neg hq]
  cases q2:orB (A0 (inR c.status 1 3)) (A0 (inR c.now 0 1000000))
  ·rw [if_neg hff]
   by_cases h3:a2k c.vars=0
   ·rw [h3,if_neg hq]
    cases q4:orB (A0 (eqI c.acts.length l.length)) (A0 (eqI c.dues.length l.length))
    ·have hl:c.acts.length=l.length∧c.dues.length=l.length:=by
      simp [orB,A0,eqI] at q4; omega
     have e0:C4 0 (C4 (ci false 3) (C4 0 (ci false 2)))=0:=by rfl
     rw [if_neg hff,g5u hl.1 hl.2,g2r hl.1 hl.2,e0,if_neg hq]
     cases orB (A0 (smS 2 c.acts)) (A0 (smS (c.now+99) c.dues))
     ·rw [if_neg hff,if_neg hff]
      unfold b1a
      by_cases h5:c.status=1
      ·have hs:¬ (A0 (eqI c.status 1)=true):=by simp [A0,eqI,h5]
       rw [if_neg hs,if_neg hs]
       by_cases h6:A3 c.acts 0=1
       ·have hs2:¬ (A0 (eqI (A3 c.acts 0) 1)=true):=by simp [A0,eqI,h6]
        have hs3:eqI (A3 c.acts 0) 1=true:=by simp [eqI,h6]
        rw [if_neg hs2,hs3]
        have hfw:=g2s ok h6
        cases q6:a2h l c l.length 0
        ·rw [hfw.2 q6]; rfl
        ·cases q7:a0q l c l.length 0
         ·rfl
         ·rw [hfw.1 q7] at q6; simp at q6
       ·have hs2:A0 (eqI (A3 c.acts 0) 1)=true:=by simp [A0,eqI,h6]
        have:eqI (A3 c.acts 0) 1=false:=by simp [eqI,h6]
        rw [if_pos hs2,this]
        cases a0q l c l.length 0 <;> rfl
      ·have hs:A0 (eqI c.status 1)=true:=by simp [A0,eqI,h5]
       rw [if_pos hs,if_pos hs]
       cases A2 (smS 0 c.acts) (smS 0 c.dues) <;> rfl
     ·rfl
    ·rfl
   ·have e1:C4 0 (C4 (ci false 3) (C4 (a2k c.vars) (ci (orB (A0 (eqI c.acts.length l.length)) (A0 (eqI c.dues.length l.length))) 2)))=a2k c.vars:=by
     have:eqI (a2k c.vars) 0=false:=by simp [eqI,h3]
     simp [C4,ci,C1,this]
    have hs:A0 (eqI (a2k c.vars) 0)=true:=by simp [A0,eqI,h3]
    rw [e1,if_pos hs,if_pos hs]
  ·have e1:C4 0 (C4 (ci true 3) (C4 (a2k c.vars) (ci (orB (A0 (eqI c.acts.length l.length)) (A0 (eqI c.dues.length l.length))) 2)))=3:=by rfl
   rw [e1]; rfl
 ·have e1:∀ b,C4 (O3 l) b=O3 l:=fun b=>by
   have:eqI (O3 l) 0=false:=by simp [eqI,h1]
   simp [C4,this]
  have hs:A0 (eqI (O3 l) 0)=true:=by simp [A0,eqI,h1]
  rw [e1,if_pos hs,if_pos hs]
attribute [local congr] K9
attribute [local simp] J8 K0 J0 J9 H3 J6 H4 G4 H5 G1 a1r
def N1 (l:List Step) (k:Nat):Int:=match l[k]? with | some s=>s.arg | none=>0
def a5l (l:List Step) (k:Nat):List Node:=match l[k]? with | some s=>s.expr | none=>[]
def a3v (go:Bool→Nat→Chart→Option Chart):List Int→Chart→Option Chart
 | [],c=>some c
 | k::r,c=>match go true k.toNat c with | some c'=>a3v go r c' | none=>none
def a8c (go:Bool→Nat→Chart→Option Chart) (l:List Step) (k:Nat) (c:Chart):Option Chart:=
 if eqI (A8 l k) 1=true then go true (A3 (A7 k 0 l) 0).toNat c
 else if eqI (A8 l k) 4=true then a3v go (A7 k 0 l) c
 else if eqI (A8 l k) 3=true then (if eqI (D3 l c.vars (A7 k 0 l)) (-1)=true then some (a0k l 3 c) else if eqI (D3 l c.vars (A7 k 0 l)) (-2)=true then some c else go true (D3 l c.vars (A7 k 0 l)).toNat c)
 else if eqI (A8 l k) 8=true then go true (A3 (A7 k 0 l) 0).toNat { c with dues:=c.dues.set k (c.now+N1 l k) }
 else if eqI (A8 l k) 6=true then some { c with dues:=c.dues.set k (c.now+N1 l k) }
 else if eqI (A8 l k) 7=true then (match a3e (a5l l k) c.vars with | none=>some (a0k l 3 c) | some v=>go false k { c with vars:=c.vars.set (N1 l k).toNat v })
 else some c
def b5d (go:Bool→Nat→Chart→Option Chart) (l:List Step) (k p:Nat) (c:Chart):Option Chart:=
 if eqI (A8 l p) 1=true then
  (if ltI (a3i k (A7 p 0 l)+1) (A7 p 0 l).length=true then go true (A3 (A7 p 0 l) (a3i k (A7 p 0 l)+1)).toNat c else go false p c)
 else if eqI (A8 l p) 4=true then (if Q4 (a1s (c.acts.set k 2)) (A7 p 0 l)=true then some { c with acts:=c.acts.set k 2 } else go false p { c with acts:=c.acts.set k 2 })
 else go false p c
def a9p (go:Bool→Nat→Chart→Option Chart) (l:List Step) (k:Nat) (c:Chart):Option Chart:=
 if eqI (k:Int) 0=true then some (a0k l 2 c) else b5d go l k (parOf l k).toNat c
def goC (l:List Step):Nat→Bool→Nat→Chart→Option Chart
 | 0,_,_,_=>none
 | f+1,true,k,c=>if eqI c.status 1=true then a8c (goC l f) l k { c with acts:=c.acts.set k 1 } else some c
 | f+1,false,k,c=>a9p (goC l f) l k (a0l (K3 l k) c)
theorem Inv.stop {l:List Step} {c:Chart} (h:Inv l c) (st:Int):Inv l (a0k l st c):=⟨h.vars,by simp [a0k],by simp [a0k],h.now0,h.now1,h.rng⟩
theorem Inv.idle {l:List Step} {c:Chart} (h:Inv l c) (ks:List Int):Inv l (a0l ks c):=⟨h.vars,by simp [a0l,c4z,h.acts],by simp [a0l,c4z,h.dues],h.now0,h.now1,h.rng⟩
theorem Inv.act {l:List Step} {c:Chart} (h:Inv l c) (k:Nat) (x:Int):Inv l { c with acts:=c.acts.set k x }:=⟨h.vars,by simp [h.acts],h.dues,h.now0,h.now1,h.rng⟩
theorem Inv.due {l:List Step} {c:Chart} (h:Inv l c) (k:Nat) (x:Int):Inv l { c with dues:=c.dues.set k x }:=⟨h.vars,h.acts,by simp [h.dues],h.now0,h.now1,h.rng⟩
theorem Inv.var {l:List Step} {c:Chart} (h:Inv l c) (k:Nat) {x:Int} (hx:badV x=false):Inv l { c with vars:=c.vars.set k x }:=⟨by simp [h.vars],h.acts,h.dues,h.now0,h.now1,fun y hy=>by
 rcases List.mem_or_eq_of_mem_set hy with h1 | h1
 ·exact h.rng y h1
 ·rw [h1]; exact hx⟩
section
variable {l:List Step}
theorem Wf.kidsN (w:Wf l) {k:Nat} (hk:k < l.length):inR (A7 k 0 l).length (M7 (A8 l k)).1 (M7 (A8 l k)).2=true:=by
 have hc:=w.ok.cond k hk
 unfold condFaultM at hc
 have hcode:b0a l k=0:=by
  split at hc
  ·exact hc
  ·rename_i c
   simp [orB,A0,eqI] at c
   exact c.1
 have:=(a0a hcode).1
 cases h:inR (A7 k 0 l).length (M7 (A8 l k)).1 (M7 (A8 l k)).2
 ·rw [h] at this; simp [A0] at this
 ·rfl
theorem Wf.kid (w:Wf l) {p:Nat} {x:Int} (hx:x∈A7 p 0 l):∃ a:Nat,x=a∧a < l.length∧p < a∧parOf l a=p:=by
 rw [a4d w.ok] at hx
 obtain ⟨a,ha,h1,h2⟩:=b3s.1 hx
 rw [Nat.zero_add] at h1
 refine ⟨a,h1,ha,?_,by rw [a8p ha]; exact h2⟩
 rcases Nat.eq_zero_or_pos a with h | h
 ·subst h
  have:=w.ok.par0 ha
  omega
 ·obtain ⟨q,h3,h4⟩:=w.ok.par a ha h
  omega
theorem Wf.kid_of (w:Wf l) {p k:Nat} (hk:k < l.length) (hp:parOf l k=p):(k:Int)∈A7 p 0 l:=by
 rw [a4d w.ok]
 exact b3s.2 ⟨k,hk,by simp,by rw [← a8p hk]; exact hp⟩
theorem Wf.kids24 (w:Wf l) (p:Nat):(A7 p 0 l).length≤24:=by
 have:=c3i p l 0
 have:=w.ok.le
 omega
theorem a7b {ks:List Int} {n:Nat} (h:n < ks.length):A3 ks (n:Int)∈ks:=by rw [K4 h]; exact List.getElem_mem h
theorem Wf.arg (w:Wf l) {k:Nat} (hk:k < l.length) (h:A8 l k=6∨A8 l k=8):1≤N1 l k∧N1 l k≤99:=by
 have p:=(b3r (w.at hk)).2.2.2.2.2.2.1
 rw [a8k hk] at h
 have e:N1 l k=(l[k]).arg:=by simp [N1,hk]
 rw [e]
 rcases h with h | h <;> rw [h] at p <;> simp [U7,eqI,inR,A2,leI] at p <;> exact p
def GoOk (l:List Step) (go:Bool→Nat→Chart→Option Chart):Prop:=
 ∀ b k c c',Inv l c→k < l.length→go b k c=some c'→fo (if b=true then 171 else 193) [aB l c,A (vI k)]=some (RB l c')∧Inv l c'
theorem GoOk.ent {go} (g:GoOk l go) {k:Nat} {c c':Chart} (h:Inv l c) (hk:k < l.length) (hc:go true k c=some c'):fo 171 [aB l c,A (vI k)]=some (RB l c')∧Inv l c':=g true k c c' h hk hc
theorem GoOk.ovr {go} (g:GoOk l go) {k:Nat} {c c':Chart} (h:Inv l c) (hk:k < l.length) (hc:go false k c=some c'):fo 193 [aB l c,A (vI k)]=some (RB l c')∧Inv l c':=g false k c c' h hk hc
theorem f5f (w:Wf l) {go} (g:GoOk l go) (all:List Int) (hall:all.length≤24) (hks:∀ k,k∈all→∃ x:Nat,k=x∧x < l.length):∀ (rest:List Int) (i:Nat) (c c':Chart),all.drop i=rest→Inv l c→a3v go rest c=some c'→
  A5 E (orc E) (171:Nat) (rest.length+1) (B3 f171 0) ⟨130,[(0,.ptr 0 0 [] 0),(47,iS all),(48,vI all.length),(49,vI i)],[(0,⟨0,1,true,bO l c⟩)],2⟩=
  some (.exit 1,⟨130,[(0,.ptr 0 0 [] 0),(47,iS all),(48,vI all.length),(49,vI (i+rest.length:Nat)),(50,vB false)],[(0,⟨0,1,true,bO l c'⟩)],2⟩)∧Inv l c'
 | [],i,c,c',h,hI,hg=>by
  have hge:all.length≤i:=by simpa using h
  have hlt:ltI (i:Int) (all.length:Int)=false:=B7 (by omega)
  simp only [a3v,Option.some.injEq] at hg; subst hg
  refine ⟨?_,hI⟩
  rw [C2]
  simp +contextual -dsimp [f171,hlt]
 | k::rest,i,c,c',h,hI,hg=>by
  obtain ⟨hi,hc,hr⟩:=C8 h
  obtain ⟨x,hx,hxl⟩:=hks k (by rw [← hc]; exact List.getElem_mem _)
  have hlt:=O4 hi
  have hw:=N6 hi (by omega)
  have he:i+1+rest.length=i+(rest.length+1):=by omega
  unfold a3v at hg
  rw [hx,Int.toNat_natCast] at hg
  cases q:go true x c with
  | none=>rw [q] at hg; simp at hg
  | some c1=>
   rw [q] at hg
   obtain ⟨g1,g2⟩:=g.ent hI hxl q
   obtain ⟨ih,hI'⟩:=f5f w g all hall hks rest (i+1) c1 c' hr g2 hg
   rw [he] at ih
   refine ⟨C0 ?_ (by simpa only [List.length_cons] using ih),hI'⟩
   rw [hx] at hc
   simp (maxSteps:=1000000) +contextual -dsimp [f171,hlt,hi,hc,hw,g1]
theorem h1t (w:Wf l) {go} (g:GoOk l go) (k:Nat) (hk:k < l.length) (c c':Chart) (hI:Inv l c)
  (h:(if eqI c.status 1=true then a8c go l k { c with acts:=c.acts.set k 1 } else some c)=some c'):fo 171 [aB l c,A (vI k)]=some (RB l c')∧Inv l c':=by
 have hl24:=w.ok.le
 cases q0:eqI c.status 1
 ·rw [q0,if_neg (by simp)] at h
  simp only [Option.some.injEq] at h; subst h
  refine ⟨?_,hI⟩
  refine a7g 1 ?_
  simp (maxSteps:=1000000) +contextual -dsimp [f171,q0]
 rw [q0,if_pos rfl] at h
 have gk:=b2f l (by omega) k
 have hka:k < c.acts.length:=by rw [hI.acts]; exact hk
 have hkd:k < c.dues.length:=by rw [hI.dues]; exact hk
 have hkk:(l[k]).kind=A8 l k:=(a8k hk).symm
 have hkg:(l[k]).arg=N1 l k:=by simp [N1,hk]
 have hkx:(l[k]).expr=a5l l k:=by simp [a5l,hk]
 have hn:=w.kidsN hk
 have h24:=w.kids24 k
 obtain ⟨c1,hc1⟩:∃ c1:Chart,c1={ c with acts:=c.acts.set k 1 }:=⟨_,rfl⟩
 have hI1:Inv l c1:=by rw [hc1]; exact hI.act k 1
 have e1:c1.status=c.status:=by rw [hc1]
 have e2:c1.now=c.now:=by rw [hc1]
 have e3:c1.vars=c.vars:=by rw [hc1]
 have e4:c1.acts=c.acts.set k 1:=by rw [hc1]
 have e5:c1.dues=c.dues:=by rw [hc1]
 rw [← hc1] at h
 generalize hks:A7 k 0 l=ks at *
 have hkm:∀ x,x∈ks→∃ a:Nat,x=a∧a < l.length:=fun x hx=>by
  rw [← hks] at hx
  obtain ⟨a,h1,h2,_⟩:=w.kid hx
  exact ⟨a,h1,h2⟩
 unfold a8c at h
 rw [hks] at h
 cases q1:eqI (A8 l k) 1
 ·cases q4:eqI (A8 l k) 4
  ·cases q3:eqI (A8 l k) 3
   ·cases q8:eqI (A8 l k) 8
    ·cases q6:eqI (A8 l k) 6
     ·cases q7:eqI (A8 l k) 7
      ·simp only [q1,q4,q3,q8,q6,q7,Bool.false_eq_true,if_false,Option.some.injEq] at h
       subst h
       refine ⟨?_,hI1⟩
       refine a7g 1 ?_
       simp (maxSteps:=1000000) +contextual -dsimp [f171,q0,hk,hka,gk,hkk,q1,q4,q3,q8,q6,q7,e1,e2,e3,e4,e5,List.set]
      ·simp only [q1,q4,q3,q8,q6,q7,Bool.false_eq_true,if_false,if_true] at h
       have h7:(l[k]).kind=7:=by rw [hkk]; simpa [eqI] using q7
       obtain ⟨okx,a0,a3⟩:=w.expr hk h7
       rw [hkx] at okx
       rw [hkg] at a0 a3
       obtain ⟨m,hm⟩:=Int.eq_ofNat_of_zero_le a0
       have hml:m < c.vars.length:=by rw [hI.vars]; omega
       have ge:=f4b (a5l l k) okx c.vars hI.vars
       rw [e3] at h
       cases ev:a3e (a5l l k) c.vars with
       | none=>
        rw [ev] at h ge
        simp only [RE] at ge
        simp only [Option.some.injEq] at h
        have gs:=c5o l (by omega) c1 3
        subst h
        refine ⟨?_,hI1.stop 3⟩
        rw [hc1] at gs ⊢
        simp only [aB,bO,RB,a0k,iE,List.map_set] at gs ⊢
        refine a7g 1 ?_
        simp (maxSteps:=1000000) +contextual -dsimp [f171,q0,hk,hka,gk,hkk,hkx,q1,q4,q3,q8,q6,q7,ge,gs,List.set]
       | some v=>
        rw [ev] at h ge
        simp only [RE] at ge
        simp only [hm,Int.toNat_natCast] at h
        obtain ⟨g1,g2⟩:=g.ovr (hI1.var m (c1p okx ev)) hk (by rw [e3]; exact h)
        rw [hc1] at g1
        simp only [aB,bO,RB,iE,List.map_set] at g1
        refine ⟨?_,g2⟩
        refine a7g 1 ?_
        simp (maxSteps:=1000000) +contextual -dsimp [f171,q0,hk,hka,gk,hkk,hkx,hkg,hm,hml,q1,q4,q3,q8,q6,q7,ge,g1,List.set]
     ·simp only [q1,q4,q3,q8,q6,Bool.false_eq_true,if_false,if_true,Option.some.injEq] at h
      obtain ⟨a1,a2⟩:=w.arg hk (.inl (by simpa [eqI] using q6))
      have hw:IntKind.i64.wrap (c.now+N1 l k)=c.now+N1 l k:=by have:=hI.now0; have:=hI.now1; rw [A6] <;> omega
      subst h
      refine ⟨?_,by simpa only [e5,e2] using hI1.due k (c.now+N1 l k)⟩
      refine a7g 1 ?_
      simp (maxSteps:=1000000) +contextual -dsimp [f171,q0,hk,hka,hkd,gk,hkk,hkg,hw,q1,q4,q3,q8,q6,e1,e2,e3,e4,e5,List.set]
    ·simp only [q1,q4,q3,q8,Bool.false_eq_true,if_false,if_true] at h
     have h8:A8 l k=8:=by simpa [eqI] using q8
     obtain ⟨a1,a2⟩:=w.arg hk (.inr h8)
     have hw:IntKind.i64.wrap (c.now+N1 l k)=c.now+N1 l k:=by have:=hI.now0; have:=hI.now1; rw [A6] <;> omega
     rw [h8] at hn
     obtain ⟨x,r,rfl⟩:∃ x r,ks=x::r:=by
      cases ks with
      | nil=>simp [M7,eqI,inR,A2,leI] at hn
      | cons x r=>exact ⟨x,r,rfl⟩
     obtain ⟨y,rfl,hyl⟩:=hkm x (by simp)
     have es:A3 ((y:Int)::r) 0=y:=rfl
     rw [es,Int.toNat_natCast] at h
     obtain ⟨g1,g2⟩:=g.ent (hI1.due k (c1.now+N1 l k)) hyl h
     rw [hc1] at g1
     simp only [aB,bO,RB,iE,List.map_set] at g1
     refine ⟨?_,g2⟩
     refine a7g 1 ?_
     simp (maxSteps:=1000000) +contextual -dsimp [f171,q0,hk,hka,hkd,gk,hkk,hkg,hw,q1,q4,q3,q8,g1,List.set]
   ·simp only [q1,q4,q3,Bool.false_eq_true,if_false,if_true] at h
    have hcm:D3 l c1.vars ks=-1∨D3 l c1.vars ks=-2∨D3 l c1.vars ks∈ks:=by
     clear h hn h24 hks gk
     induction ks with
     | nil=>exact .inr (.inl rfl)
     | cons x r ih=>
      have ih:=ih (fun y hy=>hkm y (by simp [hy]))
      unfold D3 a5p
      split
      ·split
       ·exact .inl rfl
       ·split
        ·exact .inr (.inr (by simp))
        ·rcases ih with h | h | h
         ·exact .inl h
         ·exact .inr (.inl h)
         ·exact .inr (.inr (by simp [h]))
      ·exact .inr (.inr (by simp))
    have key:(D3 l c1.vars ks=-2→c'=c1)∧(D3 l c1.vars ks=-1→c'=a0k l 3 c1)∧(0≤D3 l c1.vars ks→fo 171 [aB l c1,A (vI (D3 l c1.vars ks))]=some (RB l c'))∧Inv l c':=by
     rcases hcm with q | q | q
     ·rw [q] at h ⊢
      simp [eqI] at h
      subst h
      exact ⟨fun h=>absurd h (by omega),fun _=>rfl,fun h=>absurd h (by omega),hI1.stop 3⟩
     ·rw [q] at h ⊢
      simp [eqI] at h
      subst h
      exact ⟨fun _=>rfl,fun h=>absurd h (by omega),fun h=>absurd h (by omega),hI1⟩
     ·obtain ⟨y,hy,hyl⟩:=hkm _ q
      rw [hy] at h ⊢
      rw [if_neg (by simp [eqI] <;> omega),if_neg (by simp [eqI] <;> omega),Int.toNat_natCast] at h
      obtain ⟨g1,g2⟩:=g.ent hI1 hyl h
      exact ⟨fun h=>absurd h (by omega),fun h=>absurd h (by omega),fun _=>g1,g2⟩
    obtain ⟨k0,k1,k2,k3⟩:=key
    have gc:=g5t w c1 hI1.vars ks h24 hkm c' k0 k1 k2
    rw [hc1] at gc
    simp only [aB,bO,RB,iE,List.map_set] at gc
    refine ⟨?_,k3⟩
    refine a7g 1 ?_
    simp (maxSteps:=1000000) +contextual -dsimp [f171,q0,hk,hka,gk,hkk,q1,q4,q3,gc,List.set]
  ·simp only [q1,q4,Bool.false_eq_true,if_false,if_true] at h
   obtain ⟨g1,g2⟩:=f5f w g ks h24 hkm ks 0 c1 c' rfl hI1 h
   refine ⟨?_,g2⟩
   rw [hc1] at g1
   simp only [bO,iE,List.map_set] at g1
   simp -dsimp [f171] at g1
   refine a7g (ks.length+1) ?_
   simp (maxSteps:=1000000) +contextual -dsimp [f171,q0,hk,hka,gk,hkk,q1,q4,g1,List.set]
 ·simp only [q1,if_true] at h
  have h1:A8 l k=1:=by simpa [eqI] using q1
  rw [h1] at hn
  obtain ⟨x,r,rfl⟩:∃ x r,ks=x::r:=by
   cases ks with
   | nil=>simp [M7,eqI,inR,A2,leI] at hn
   | cons x r=>exact ⟨x,r,rfl⟩
  obtain ⟨y,rfl,hyl⟩:=hkm x (by simp)
  have es:A3 ((y:Int)::r) 0=y:=rfl
  rw [es,Int.toNat_natCast] at h
  obtain ⟨g1,g2⟩:=g.ent hI1 hyl h
  rw [hc1] at g1
  simp only [aB,bO,RB,iE,List.map_set] at g1
  refine ⟨?_,g2⟩
  refine a7g 1 ?_
  simp (maxSteps:=1000000) +contextual -dsimp [f171,q0,hk,hka,gk,hkk,q1,g1,List.set]
end
end Go.TM.Ft
