/- What functions of the program come to, by the machine. -/
import Derived.Test.YtlmiemdojgahaaaGreatKL4
import Derived.Test.YtlmiemdojgahaaaGreatKL2
import Derived.Test.YtlmiemdojgahaaaGreatKL14
import Derived.Test.YtlmiemdojgahaaaGreatKL12
import Derived.Test.YtlmiemdojgahaaaGreatKL8
import Derived.Test.YtlmiemdojgahaaaGreatKL1
import Derived.Test.YtlmiemdojgahaaaGreatKL13
set_option linter.unusedSimpArgs false
set_option linter.unusedVariables false
set_option maxHeartbeats 4000000
namespace Go.TM.Ft
open Go Go.TM Go.Proofs Go.Proofs.Tryz
set_option maxRecDepth 20000
attribute [local congr] M0
attribute [local simp] K2 K6 J4 K3 H7 J9 H8 G9 J1 G3
theorem f5w {args:List Arg} {r:Res} (n:Nat) (h:a3v E (orc E) n (217:Nat) f217 args=some r):fo 217 args=some r:=A3 n rfl rfl rfl func217 h
def a9i (p:Claim→Bool):List Claim→Nat→Int
 | [],_=>-1
 | c::r,i=>if p c=true then (i:Int) else a9i p r (i+1)
theorem d3c (p:Claim→Bool):∀ (l:List Claim) (i:Nat),(a9i p l i=-1∧∀ c,c∈l→p c=false)∨∃ k,k < l.length∧a9i p l i=((i+k:Nat):Int)∧(l.take k).filter (fun c=>!p c)=l.take k∧∃ c,l[k]?=some c∧p c=true
 | [],i=>.inl ⟨rfl,fun c hc=>by simp at hc⟩
 | c::r,i=>by
  simp only [a9i]
  cases h:p c
  ·rw [if_neg (by simp)]
   rcases d3c p r (i+1) with ⟨e,ha⟩ | ⟨k,hk,e,ht,c',hc',hp⟩
   ·exact .inl ⟨e,fun x hx=>by rcases List.mem_cons.1 hx with rfl | hx; exact h; exact ha x hx⟩
   ·exact .inr ⟨k+1,by simp; omega,by rw [e]; congr 1; omega,by simp [h,ht],c',by simpa using hc',hp⟩
  ·rw [if_pos rfl]
   exact .inr ⟨0,by simp,by simp,by simp,c,by simp,h⟩
section df
variable {cp:List T} {p:Claim→Bool} {all:List Claim}
theorem g2n (hl:all.length≤1048576) (hp:∀ c,c∈all→fo 218 [A (.agg (kT c)),A (.ipt cp)]=some (R (vB (p c)))):∀ (rest:List Claim) (i:Nat),all.drop i=rest→
  (a9i p rest i=-1∧A6 E (orc E) (260:Nat) (rest.length+1) (A8 f260 0) ⟨19,[(0,.sl 150 (all.map kT)),(1,.clo 218 [.ipt cp]),(7,vI all.length),(8,vI i)],[],2⟩=
    some (.exit 0,⟨19,[(0,.sl 150 (all.map kT)),(1,.clo 218 [.ipt cp]),(7,vI all.length),(8,vI (i+rest.length:Nat)),(9,vB false)],[],2⟩))∨
   ∃ k:Nat,a9i p rest i=k∧A6 E (orc E) (260:Nat) (rest.length+1) (A8 f260 0) ⟨19,[(0,.sl 150 (all.map kT)),(1,.clo 218 [.ipt cp]),(7,vI all.length),(8,vI i)],[],2⟩=some (.ret,⟨19,[(4,vI k)],[],2⟩)
 | [],i,h=>by
  have hge:all.length≤i:=by simpa using h
  have hlt:ltI (i:Int) (all.length:Int)=false:=B6 (by omega)
  refine .inl ⟨rfl,?_⟩
  rw [C3]
  simp +contextual -dsimp [f260,hlt]
 | c::rest,i,h=>by
  obtain ⟨hi,hc,hr⟩:=C6 h
  have hlt:ltI (i:Int) (all.length:Int)=true:=C4 (by omega)
  have hw:IntKind.i64.wrap ((i:Int)+1)=((i+1:Nat):Int):=by rw [A5] <;> omega
  have g:=hp c (by rw [← hc]; exact List.getElem_mem hi)
  have he:i+1+rest.length=i+(rest.length+1):=by omega
  simp only [a9i]
  cases q:p c
  ·rw [if_neg (by simp)]
   rw [q] at g
   have step:∀ {r},A6 E (orc E) (260:Nat) (rest.length+1) (A8 f260 0) ⟨19,[(0,.sl 150 (all.map kT)),(1,.clo 218 [.ipt cp]),(7,vI all.length),(8,vI (i+1:Nat))],[],2⟩=r→
     A6 E (orc E) (260:Nat) (rest.length+1+1) (A8 f260 0) ⟨19,[(0,.sl 150 (all.map kT)),(1,.clo 218 [.ipt cp]),(7,vI all.length),(8,vI i)],[],2⟩=r:=fun ih=>by
    refine C1 ?_ ih
    simp (maxSteps:=1000000) +contextual -dsimp [f260,hlt,hi,hc,hw,g,List.set]
   rcases g2n hl hp rest (i+1) hr with ⟨e,ih⟩ | ⟨k,e,ih⟩
   ·refine .inl ⟨e,?_⟩
    rw [he] at ih
    exact step ih
   ·exact .inr ⟨k,e,step ih⟩
  ·rw [if_pos rfl]
   rw [q] at g
   refine .inr ⟨i,rfl,D3 ?_ (by simp)⟩
   simp (maxSteps:=1000000) +contextual -dsimp [f260,hlt,hi,hc,hw,g,List.set]
theorem h3k (hl:all.length≤1048576) (hp:∀ c,c∈all→fo 218 [A (.agg (kT c)),A (.ipt cp)]=some (R (vB (p c)))):fo 260 [A (.sl 150 (all.map kT)),A (.clo 218 [.ipt cp])]=some (R (vI (a9i p all 0))):=by
 refine h9o (all.length+1) ?_
 rcases g2n hl hp all 0 rfl with ⟨e,ih⟩ | ⟨k,e,ih⟩
 ·rw [e]
  simp -dsimp [f260] at ih
  simp (maxSteps:=1000000) +contextual -dsimp [f260,ih,List.set]
 ·rw [e]
  simp -dsimp [f260] at ih
  simp (maxSteps:=1000000) +contextual -dsimp [f260,ih,List.set]
def dfS (p:Claim→Bool):List Claim→List (List T) × Nat→List (List T) × Nat
 | [],s=>s
 | c::r,s=>dfS p r (if p c=true then s else (s.1.set s.2 (kT c),s.2+1))
theorem c5e (p:Claim→Bool):∀ (rest:List Claim) (j:Nat) (es:List (List T)) (w:Nat),w < j→j+rest.length=es.length→es.all (·.all U4)=true→
  (dfS p rest (es,w)).1.length=es.length∧(dfS p rest (es,w)).2 < es.length∧(dfS p rest (es,w)).1.all (·.all U4)=true∧(dfS p rest (es,w)).1.take (dfS p rest (es,w)).2=es.take w++(rest.filter fun c=>!p c).map kT
 | [],j,es,w,h1,h2,h3=>by simp only [List.length_nil,Nat.add_zero] at h2; exact ⟨rfl,by simp only [dfS]; omega,h3,by simp [dfS]⟩
 | c::rest,j,es,w,h1,h2,h3=>by
  simp only [List.length_cons] at h2
  simp only [dfS]
  cases q:p c
  ·rw [if_neg (by simp)]
   have h3':(es.set w (kT c)).all (·.all U4)=true:=by
    rw [List.all_eq_true] at h3 ⊢
    intro x hx
    rcases List.mem_or_eq_of_mem_set hx with hx | rfl
    ·exact h3 x hx
    ·rfl
   obtain ⟨a1,a2,a3,a4⟩:=c5e p rest (j+1) (es.set w (kT c)) (w+1) (by omega) (by rw [List.length_set]; omega) h3'
   rw [List.length_set] at a1 a2
   refine ⟨a1,a2,a3,?_⟩
   rw [a4]
   have:(es.set w (kT c)).take (w+1)=es.take w++[kT c]:=by
    rw [List.set_eq_take_append_cons_drop,if_pos (by omega),List.take_append,List.length_take,Nat.min_eq_left (by omega),List.take_of_length_le (by rw [List.length_take]; omega),show w+1 - w=1 by omega]
    simp
   rw [this]
   simp [q]
  ·rw [if_pos rfl]
   obtain ⟨a1,a2,a3,a4⟩:=c5e p rest (j+1) es w (by omega) (by omega) h3
   exact ⟨a1,a2,a3,by rw [a4]; simp [q]⟩
def r7 (x:Option Claim):List (Nat × Root):=match x with | none=>[] | some c=>[(7,⟨1,1,true,kT c⟩)]
theorem d0a (hl:all.length≤1048576) (hp:∀ c,c∈all→fo 218 [A (.agg (kT c)),A (.ipt cp)]=some (R (vB (p c)))):∀ (rest:List Claim) (j:Nat) (es:List (List T)) (w:Nat) (x:Option Claim),all.drop j=rest→w < j→es.length=all.length→(∀ k,j≤k→es[k]?=(all.map kT)[k]?)→(∀ x,x∈es→x.length=3)→
  ∃ x',A6 E (orc E) (217:Nat) (rest.length+1) (A8 f217 0) ⟨42,[(0,.ref 0 0 [] 0 all.length),(1,.clo 218 [.ipt cp]),(5,vI w),(6,vI j)],(0,⟨0,0,false,[.own 150 es]⟩)::r7 x,2⟩=
   some (.exit 0,⟨42,[(0,.ref 0 0 [] 0 all.length),(1,.clo 218 [.ipt cp]),(5,vI (dfS p rest (es,w)).2),(6,vI (j+rest.length:Nat)),(19,vB false)],(0,⟨0,0,false,[.own 150 (dfS p rest (es,w)).1]⟩)::r7 x',2⟩)
 | [],j,es,w,x,h,h1,h2,h3,_=>by
  have hge:all.length≤j:=by simpa using h
  have hlt:ltI (j:Int) (all.length:Int)=false:=B6 (by omega)
  refine ⟨x,?_⟩
  rw [C3]
  cases x <;> simp +contextual -dsimp [f217,hlt,h2,dfS,r7]
 | c::rest,j,es,w,x,h,h1,h2,h3,h4=>by
  obtain ⟨hi,hc,hr⟩:=C6 h
  have hlt:ltI (j:Int) (all.length:Int)=true:=C4 (by omega)
  have hw:IntKind.i64.wrap ((j:Int)+1)=((j+1:Nat):Int):=by rw [A5] <;> omega
  have hw2:IntKind.i64.wrap ((w:Int)+1)=((w+1:Nat):Int):=by rw [A5] <;> omega
  have g:=hp c (by rw [← hc]; exact List.getElem_mem hi)
  have he:j+1+rest.length=j+(rest.length+1):=by omega
  have hej:es[j]?=some (kT c):=by rw [h3 j (Nat.le_refl _)]; simp [hi,hc]
  have hji:j < es.length:=by omega
  have hwi:w < es.length:=by omega
  have hwa:w < all.length:=by omega
  have hej':es[j]=kT c:=by rw [List.getElem?_eq_getElem hji] at hej; simpa using hej
  simp only [dfS]
  cases q:p c
  ·obtain ⟨x',ih⟩:=d0a hl hp rest (j+1) (es.set w (kT c)) (w+1) (some c) hr (by omega) (by rw [List.length_set]; exact h2) (fun k hk=>by rw [List.getElem?_set_ne (by omega)]; exact h3 k (by omega)) (fun x hx=>by
    rcases List.mem_or_eq_of_mem_set hx with hx | rfl
    ·exact h4 x hx
    ·rfl)
   rw [q] at g
   rw [if_neg (by simp)]
   rw [he] at ih
   obtain ⟨t1,t2,t3,hew⟩:∃ t1 t2 t3,es[w]=[t1,t2,t3]:=by
    have:=h4 _ (List.getElem_mem hwi)
    match h5:es[w],this with
    | [t1,t2,t3],_=>exact ⟨t1,t2,t3,rfl⟩
   refine ⟨x',C1 ?_ ih⟩
   cases x <;> simp (maxSteps:=1000000) +contextual -dsimp [f217,hlt,hi,hwa,hji,hwi,hej',hew,h2,hw,hw2,g,r7,List.set]
  ·obtain ⟨x',ih⟩:=d0a hl hp rest (j+1) es w (some c) hr (by omega) h2 (fun k hk=>h3 k (by omega)) h4
   rw [q] at g
   rw [if_pos rfl]
   rw [he] at ih
   refine ⟨x',C1 ?_ ih⟩
   cases x <;> simp (maxSteps:=1000000) +contextual -dsimp [f217,hlt,hi,hji,hej',h2,hw,g,r7,List.set]
theorem g9x (hl:all.length≤1048576) (hp:∀ c,c∈all→fo 218 [A (.agg (kT c)),A (.ipt cp)]=some (R (vB (p c)))):
  fo 217 [⟨.ref 0 0 [] 0 all.length,some ⟨0,0,false,[.own 150 (all.map kT)]⟩⟩,A (.clo 218 [.ipt cp])]=some ⟨.own 150 ((all.filter fun c=>!p c).map kT),[],true⟩:=by
 have g1:=h3k hl hp
 have hseal:L5 (all.map kT)=all.map kT:=a3p (f:=kT) (g:=kT) (fun a=>by simp [O5,L9]) all
 have hcl:D9 ((all.filter fun c=>!p c).map kT)=true:=by
  generalize (all.filter fun c=>!p c)=l
  induction l with
  | nil=>rfl
  | cons c l ih=>simp [D9,N5,clean,ih]
 have hpl:(all.map kT).all (·.all U4)=true:=by
  rw [List.all_eq_true]
  intro x hx
  obtain ⟨c,_,rfl⟩:=List.mem_map.1 hx
  rfl
 rcases d3c p all 0 with ⟨e,ha⟩ | ⟨i,hi,e,ht,c,hc,hpc⟩
 ·have hf:(all.filter fun c=>!p c)=all:=List.filter_eq_self.2 fun c hc=>by simp [ha c hc]
  rw [e] at g1
  rw [hf] at hcl ⊢
  have q1:eqI (-1) (-1)=true:=rfl
  refine f5w 1 ?_
  simp (maxSteps:=1000000) +contextual -dsimp [f217,g1,hseal,hcl,q1,List.set]
 ·rw [Nat.zero_add] at e
  rw [e] at g1
  have q1:eqI (i:Int) (-1)=false:=by simp [eqI]
  have hw:IntKind.i64.wrap ((i:Int)+1)=((i+1:Nat):Int):=by rw [A5] <;> omega
  obtain ⟨x',hlp⟩:=d0a hl hp (all.drop (i+1)) (i+1) (all.map kT) i none rfl (by omega) (by simp) (fun k _=>rfl) (fun x hx=>by obtain ⟨c,_,rfl⟩:=List.mem_map.1 hx; rfl)
  obtain ⟨a1,a2,a3,a4⟩:=c5e p (all.drop (i+1)) (i+1) (all.map kT) i (by omega) (by simp; omega) hpl
  have hres:(all.map kT).take i++((all.drop (i+1)).filter fun c=>!p c).map kT=(all.filter fun c=>!p c).map kT:=by
   have h1:all=all.take i++c::all.drop (i+1):=by
    have:=List.take_append_drop i all
    rw [List.drop_eq_getElem_cons hi] at this
    have h2:all[i]=c:=by rw [List.getElem?_eq_getElem hi] at hc; simpa using hc
    rw [h2] at this
    exact this.symm
   conv=>rhs; rw [h1]
   rw [List.filter_append,ht,List.filter_cons,hpc]
   simp [List.map_take]
  rw [hres] at a4
  rw [List.length_map] at a1 a2
  generalize dfS p (all.drop (i+1)) (all.map kT,i)=sE at *
  obtain ⟨es',w'⟩:=sE
  simp only at a1 a2 a3 a4 hlp
  have hlen:(all.drop (i+1)).length+1=(all.drop (i+1)).length+1:=rfl
  generalize hN:(all.drop (i+1)).length=N at hlp
  have k0:(0:Int)≤(w':Int):=by omega
  have k1:(w':Int) < (all.length:Int):=by omega
  have k2:(w':Int)≤(all.length:Int):=by omega
  have k3:(es'.take w'++List.replicate (all.length - w') [vI 0,vI 0,vI 0]).length=all.length:=by rw [List.length_append,List.length_take,List.length_replicate]; omega
  have k4:(es'.take w'++List.replicate (all.length - w') [vI 0,vI 0,vI 0]).take w'=(all.filter fun c=>!p c).map kT:=by
   rw [List.take_append_of_le_length (by rw [List.length_take]; omega),List.take_take,Nat.min_self,a4]
  simp -dsimp [f217,r7] at hlp
  refine f5w (N+1) ?_
  cases x' <;> simp (maxSteps:=1000000) +contextual -dsimp [f217,g1,hseal,hcl,q1,hw,hlp,a1,a3,k0,k1,k2,k3,k4,r7,List.set]
end df
attribute [local simp] a2h a5d a7p b6u a7j a1q a2t a4g
theorem i1i {l:List Step} (h:∀ s,s∈l→FitS s):b1m l:=fun s hs=>⟨(h s hs).name,(h s hs).cond,(h s hs).expr⟩
def noE:Engine:=⟨[],[],0⟩
def a4x (k:Int):EngR:=⟨k,0,noE⟩
def b3s (e:Engine) (n:Nat) (c:Chart):Engine:=match e.insts[n]? with | some x=>{ e with insts:=e.insts.set n ⟨x.proc,c⟩ } | none=>e
theorem c7j {e:Engine} {n:Nat} {c:Chart} (hn:n < e.insts.length):b3s e n c={ e with insts:=e.insts.set n ⟨(e.insts[n]).proc,c⟩ }:=by simp [b3s,hn]
def a7e (e:Engine) (n:Nat) (r:Int × Chart):EngR:=if A0 (eqI r.1 0)=true then a4x r.1 else ⟨0,r.2.status,b3s e n r.2⟩
abbrev REn (r:EngR):Res:=⟨.agg (g4b r),[],true⟩
abbrev aR (i:Nat) (r:Int × Chart):Arg:=⟨.agg [vI r.1,vI r.2.status,vI r.2.now,.ref i 0 [] 3 r.2.vars.length,.ref i 0 [] 4 r.2.acts.length,.ref i 0 [] 5 r.2.dues.length],some ⟨0,0,false,[.dead,.dead,.dead,.own 2 (iE r.2.vars),.own 2 (iE r.2.acts),.own 2 (iE r.2.dues)]⟩⟩
theorem e1f (k:Int):fo 108 [A (vI k)]=some (REn (a4x k)):=by
 refine h6b 1 ?_
 simp (maxSteps:=1000000) +contextual -dsimp [f108,a4x,noE,List.set]
theorem i4r (e:Engine) (h:SmE e) (n:Nat) (hn:n < e.insts.length) (r:Int × Chart):fo 125 [A (.agg (eT e)),A (vI (n:Nat)),aR 2 r]=some (REn (a7e e n r)):=by
 have g1:=h3i e h
 have hcl:=a1q e.procs
 obtain ⟨code,c⟩:=r
 unfold a7e
 simp only [c7j hn]
 have hcl2:=a2t (e.insts.set n ⟨(e.insts[n]).proc,c⟩)
 rw [List.map_set] at hcl2
 cases q:eqI code 0
 ·refine e4b 1 ?_
  simp (maxSteps:=1000000) +contextual -dsimp [f125,q,a4x,noE,List.set]
 ·refine e4b 1 ?_
  simp (maxSteps:=1000000) +contextual -dsimp [f125,q,g1,hn,hcl,hcl2,List.map_set,List.set]
theorem h3l (e:Engine) (h:SmE e) (n:Nat) (hn:n < e.insts.length) (r:Int × Chart):fo 123 [A (.ipt (eT e)),A (vI (n:Nat)),aR 2 r]=some (REn (a7e e n r)):=by
 have g1:=g9u e h
 have hcl:=a1q e.procs
 obtain ⟨code,c⟩:=r
 have g2:=e1f code
 unfold a7e
 simp only [c7j hn]
 have hcl2:=a2t (e.insts.set n ⟨(e.insts[n]).proc,c⟩)
 rw [List.map_set] at hcl2
 cases q:eqI code 0
 ·refine e4a 1 ?_
  simp (maxSteps:=1000000) +contextual -dsimp [f123,q,g2,a4x,noE,List.set]
 ·refine e4a 1 ?_
  simp (maxSteps:=1000000) +contextual -dsimp [f123,q,g1,hn,hcl,hcl2,List.map_set,List.set]
def a2p (e:Engine) (inst:Int):Int:=B5 (P9 e) (ci (A0 (inR inst 0 ((e.insts.length:Int) - 1))) 3)
theorem i1j {k:Int} {n:Nat} (h:inR k 0 ((n:Int) - 1)=true):∃ a:Nat,k=a∧a < n:=by
 simp [inR,A1,leI] at h
 obtain ⟨a,ha⟩:=Int.eq_ofNat_of_zero_le h.1
 exact ⟨a,ha,by omega⟩
theorem i4s {b:Bool} {k:Int} (hk:k≠0) (h:ci (A0 b) k=0):b=true:=by
 have:=a5h hk h
 cases b <;> simp [A0] at this ⊢
theorem c3e {e:Engine} {inst:Int} (h:a2p e inst=0):P9 e=0∧∃ n:Nat,inst=n∧n < e.insts.length:=by
 obtain ⟨h1,h2⟩:=O1 h
 exact ⟨h1,i1j (i4s (by omega) h2)⟩
theorem g7n (e:Engine) (hf:FitE e) (inst:Int):fo 124 [A (.agg (eT e)),A (vI inst)]=some (R (vI (a2p e inst))):=by
 have g1:=d1p e hf
 have g2:=b4s inst e.insts.length hf.ni
 have g3:=U5 (P9 e) (ci (A0 (inR inst 0 ((e.insts.length:Int) - 1))) 3)
 unfold a2p
 refine h6p 1 ?_
 simp (maxSteps:=1000000) +contextual -dsimp [f124,g1,g2,g3,O6,List.set]
theorem g7o (e:Engine) (hf:FitE e) (inst:Int):fo 122 [A (.ipt (eT e)),A (vI inst)]=some (R (vI (a2p e inst))):=by
 have g1:=d5e e [] hf
 rw [e2b] at g1
 have hni:=hf.ni
 have hw:IntKind.i64.wrap ((e.insts.length:Int) - 1)=(e.insts.length:Int) - 1:=by rw [A5] <;> omega
 unfold a2p
 cases q:eqI (P9 e) 0
 ·have e1:B5 (P9 e) (ci (A0 (inR inst 0 ((e.insts.length:Int) - 1))) 3)=P9 e:=by simp [B5,q]
  rw [e1]
  refine c6d 1 ?_
  simp (maxSteps:=1000000) +contextual -dsimp [f122,g1,q,List.set]
 ·have q0:P9 e=0:=by simpa [eqI] using q
  rw [q0]
  rw [q0] at g1
  have q1:eqI 0 0=true:=rfl
  have e1:B5 0 (ci (A0 (inR inst 0 ((e.insts.length:Int) - 1))) 3)=ci (A0 (inR inst 0 ((e.insts.length:Int) - 1))) 3:=by simp [B5,q1]
  rw [e1]
  cases q2:inR inst 0 ((e.insts.length:Int) - 1)
  ·refine c6d 1 ?_
   simp (maxSteps:=1000000) +contextual -dsimp [f122,g1,q1,q2,hw,C8,ci,List.set]
  ·refine c6d 1 ?_
   simp (maxSteps:=1000000) +contextual -dsimp [f122,g1,q1,q2,hw,C8,ci,List.set]
def a0i (e:Engine) (inst step:Int) (vars:List Int):EngR:=
 if A0 (eqI (a2p e inst) 0)=true then a4x (a2p e inst) else a7e e inst.toNat (a1i (stepsOf e (a1g e inst)) (a1g e inst).chart step vars)
theorem c2j {e:Engine} (h:P9 e=0) {n:Nat} (hn:n < e.insts.length):
  ∃ (a:Nat) (ha:a < e.procs.length),(e.insts[n]).proc=a∧stepsOf e (a1g e n)=e.procs[a]∧a1g e n=e.insts[n]:=by
 obtain ⟨_,_,h3⟩:=b2d h
 obtain ⟨a,ha,hx,e2,_⟩:=(h3 _ (List.getElem_mem hn)).at_
 have e1:a1g e n=e.insts[n]:=by simp [a1g,hn]
 exact ⟨a,ha,hx,by rw [e1]; exact e2,e1⟩
theorem g7p (e:Engine) (hf:FitE e) (hs:SmE e) (inst step:Int) (vars:List Int) (hv:vars.length < 2 ^ 62):fo 50 [A (.agg (eT e)),A (vI inst),A (vI step),A (iS vars)]=some (REn (a0i e inst step vars)):=by
 have g1:=g7n e hf inst
 unfold a0i
 cases q:eqI (a2p e inst) 0
 ·refine f7q 1 ?_
  simp (maxSteps:=1000000) +contextual -dsimp [f50,g1,q,a4x,noE,List.set]
 ·have q0:a2p e inst=0:=by simpa [eqI] using q
  obtain ⟨h0,n,rfl,hn⟩:=c3e q0
  obtain ⟨a,ha,hx,e2,e1⟩:=c2j h0 hn
  have hp:=hf.procs _ (List.getElem_mem ha)
  have g2:=c7o e (e.insts[n]) a hx ha
  have g3:=g5r (e.procs[a]) hp.len hp.steps (e.insts[n]).chart (hf.insts _ (List.getElem_mem hn)) step vars hv
  rw [q0] at g1
  have n0:A0 true=false:=rfl
  have q1:eqI 0 0=true:=rfl
  rw [n0,if_neg (by simp),e2,e1]
  generalize a1i (e.procs[a]) (e.insts[n]).chart step vars=r at *
  have g4:=i4r e hs n hn r
  have e3:((n:Nat):Int).toNat=n:=by omega
  rw [e3]
  obtain ⟨code,c⟩:=r
  generalize a7e e n (code,c)=o at *
  refine f7q 1 ?_
  simp (maxSteps:=1000000) +contextual -dsimp [f50,g1,g2,g3,g4,q1,hn,List.set]
theorem g5t (e:Engine) (hf:FitE e) (hs:SmE e) (inst step:Int) (vars:List Int):fo 49 [A (.agg (eT e)),A (vI inst),A (vI step),A (iS vars)]=some (REn (a0i e inst step vars)):=by
 have g1:=g7o e hf inst
 have gb:=e1f (a2p e inst)
 unfold a0i
 cases q:eqI (a2p e inst) 0
 ·refine f7p 1 ?_
  simp (maxSteps:=1000000) +contextual -dsimp [f49,g1,gb,q,a4x,noE,List.set]
 ·have q0:a2p e inst=0:=by simpa [eqI] using q
  obtain ⟨h0,n,rfl,hn⟩:=c3e q0
  obtain ⟨a,ha,hx,e2,e1⟩:=c2j h0 hn
  have hp:=hf.procs _ (List.getElem_mem ha)
  have g3:=g4r (e.procs[a]) hp.len (i1i hp.steps) (e.insts[n]).chart step vars
  rw [q0] at g1
  have n0:A0 true=false:=rfl
  have q1:eqI 0 0=true:=rfl
  rw [n0,if_neg (by simp),e2,e1]
  generalize a1i (e.procs[a]) (e.insts[n]).chart step vars=r at *
  have g4:=h3l e hs n hn r
  have e3:((n:Nat):Int).toNat=n:=by omega
  rw [e3]
  obtain ⟨code,c⟩:=r
  generalize a7e e n (code,c)=o at *
  refine f7p 1 ?_
  simp (maxSteps:=1000000) +contextual -dsimp [f49,g1,g3,g4,q1,hn,hx,ha,List.set]
attribute [local simp] a2r
structure ActsAt (e:Engine) (k:Int):Prop where
 at_:∃ (i a:Nat) (hi:i < e.insts.length) (ha:a < e.procs.length),k=i∧(e.insts[i]).proc=a∧(e.procs[a]).length < 2 ^ 62∧(e.insts[i]).chart.acts.length=(e.procs[a]).length
theorem i1k {e:Engine} (h:P9 e=0) (hf:FitE e) {i:Nat} (hi:i < e.insts.length):ActsAt e i:=by
 obtain ⟨_,_,h3⟩:=b2d h
 obtain ⟨a,ha,hx,_,_,hl⟩:=(h3 _ (List.getElem_mem hi)).at_
 exact ⟨i,a,hi,ha,rfl,hx,(hf.procs _ (List.getElem_mem ha)).len,hl⟩
theorem h3m {e:Engine} (h:P9 e=0) (hf:FitE e) {n:Nat} (hn:n < e.insts.length) {c:Chart} (hc:Inv (stepsOf e (a1g e n)) c) {i:Nat} (hi:i < e.insts.length):ActsAt (b3s e n c) i:=by
 obtain ⟨i',a,hi',ha,e1,hx,hl,hac⟩:=i1k h hf hi
 obtain rfl:i=i':=by omega
 obtain ⟨b,hb,hxb,e2,e3⟩:=c2j h hn
 rw [c7j hn]
 rw [e2] at hc
 by_cases hin:n=i
 ·subst hin
  obtain rfl:a=b:=by omega
  exact ⟨n,a,by simpa using hn,ha,rfl,by simpa using hx,hl,by simpa using hc.acts⟩
 ·exact ⟨i,a,by simpa using hi,ha,rfl,by simpa [List.getElem_set,hin] using hx,hl,by simpa [List.getElem_set,hin] using hac⟩
theorem h3n {l:List Step} {c:Chart} {step:Int} {vars:List Int} (h:(a1i l c step vars).1=0):Inv l (a1i l c step vars).2:=by
 have:=e0s (l:=l) (c:=c) (a:=⟨1,step,vars⟩)
 simp only [b3r,show eqI (1:Int) 1=true from rfl,if_true] at this
 exact this h
theorem g9y {e:Engine} (hf:FitE e) {inst step:Int} {vars:List Int} (h:(a0i e inst step vars).code=0) {i:Nat} (hi:i < e.insts.length):ActsAt (a0i e inst step vars).eng i:=by
 unfold a0i at h ⊢
 cases q:eqI (a2p e inst) 0
 ·rw [q] at h
  simp only [A0,Bool.not_false,if_true,a4x] at h
  rw [h] at q; simp [eqI] at q
 ·rw [q] at h
  have q0:a2p e inst=0:=by simpa [eqI] using q
  obtain ⟨h0,n,rfl,hn⟩:=c3e q0
  have e3:((n:Nat):Int).toNat=n:=by omega
  simp only [A0,Bool.not_true,Bool.false_eq_true,if_false,e3] at h ⊢
  unfold a7e at h ⊢
  cases q2:eqI (a1i (stepsOf e (a1g e n)) (a1g e n).chart step vars).1 0
  ·rw [q2] at h
   simp only [A0,Bool.not_false,if_true,a4x] at h
   rw [h] at q2; simp [eqI] at q2
  ·simp only [A0,Bool.not_true,Bool.false_eq_true,if_false]
   exact h3m h0 hf hn (h3n (by simpa [eqI] using q2)) hi
def a3f (e:Engine) (l:List Claim):List Claim:=l.filter fun c=>V7 e c.inst c.step
def b2q (l:List Claim) (r:EngR):DeskR:=if A0 (eqI r.code 0)=true then a1n r.code else ⟨0,r.value,⟨r.eng,a3f r.eng l⟩⟩
theorem g9z (r:EngR) (c:Claim) (h:ActsAt r.eng c.inst):fo 218 [A (.agg (kT c)),A (.ipt (erT r))]=some (R (vB (A0 (V7 r.eng c.inst c.step)))):=by
 obtain ⟨i,a,hi,ha,e1,hx,hl,hac⟩:=h
 have g:=c5i r.eng i hi a hx ha hl hac c.step
 rw [← e1] at g
 refine h8i 1 ?_
 simp (maxSteps:=1000000) +contextual -dsimp [f218,g,List.set]
abbrev aER (i:Nat) (r:EngR):Arg:=⟨.agg [vI r.code,vI r.value,.ref i 0 [] 2 r.eng.procs.length,.ref i 0 [] 3 r.eng.insts.length,vI r.eng.now],some ⟨0,0,false,[.dead,.dead,.own 160 (r.eng.procs.map H5),.own 163 (r.eng.insts.map L7),.dead]⟩⟩
theorem h3o (l:List Claim) (hl:l.length≤1048576) (r:EngR) (h:r.code=0→∀ c,c∈l→ActsAt r.eng c.inst):fo 150 [A (.sl 150 (l.map kT)),aER 1 r]=some (RDk (b2q l r)):=by
 unfold b2q
 cases q:eqI r.code 0
 ·refine e4d 1 ?_
  simp (maxSteps:=1000000) +contextual -dsimp [f150,q,a1n,noD,List.set]
 ·have q0:r.code=0:=by simpa [eqI] using q
  have g1:=e1c l hl
  have g2:=g9x (all:=l) (cp:=erT r) (p:=fun c=>A0 (V7 r.eng c.inst c.step)) hl fun c hc=>g9z r c (h q0 c hc)
  have e:(l.filter fun c=>!(A0 (V7 r.eng c.inst c.step)))=a3f r.eng l:=by
   unfold a3f; congr 1; funext c; simp [A0]
  simp only [e] at g2
  have s1:=b4b r.eng.procs
  have s2:=b4c r.eng.insts
  have s3:=a2r (a3f r.eng l)
  generalize a3f r.eng l=k at *
  obtain ⟨code,value,⟨ps,xs,now⟩⟩:=r
  simp only at *
  subst q0
  refine e4d 1 ?_
  simp (maxSteps:=1000000) +contextual -dsimp [f150,q,g1,g2,s1,s2,s3,B7,List.set]
def a7v (d:Desk) (u i s:Int) (vars:List Int):DeskR:=
 if A0 (eqI (L8 d u i s) 0)=true then a1n (L8 d u i s)
 else if eqI (U1 d.claims i s) u=true then b2q (U6 d.claims i s) (a0i d.eng i s vars) else a1n 10
theorem d4p {d:Desk}:∀ {rest:List Claim} {i:Nat},J8 d i rest=0→∀ c,c∈rest→∃ b:Nat,c.inst=b∧b < d.eng.insts.length
 | [],_,_,c,hc=>by simp at hc
 | x::rest,i,hz,c,hc=>by
  simp only [J8] at hz
  cases q:eqI (K1 d i x) 0
  ·rw [q] at hz; simp only [Bool.false_eq_true,if_false] at hz
   rw [hz] at q; simp [eqI] at q
  ·rw [q] at hz; simp only [if_true] at hz
   rcases List.mem_cons.1 hc with rfl | hc
   ·have e0:K1 d i c=0:=by simpa [eqI] using q
    unfold K1 at e0
    split at e0
    ·omega
    ·rename_i h
     cases h9:inR c.inst 0 ((d.eng.insts.length:Int) - 1)
     ·rw [h9] at h; simp [orB,A0] at h
     ·exact c5j h9
   ·exact d4p hz c hc
theorem d3d {d:Desk} (hf:FitE d.eng) (h:a2l d=0) {i s:Int} {vars:List Int} (h0:(a0i d.eng i s vars).code=0) (p q:Int):∀ c,c∈U6 d.claims p q→ActsAt (a0i d.eng i s vars).eng c.inst:=fun c hc=>by
 have hm:c∈d.claims:=by unfold U6 at hc; exact (List.mem_filter.1 hc).1
 obtain ⟨z1,_,z3⟩:=b2e h
 obtain ⟨b,e,hb⟩:=d4p z3 c hm
 rw [e]
 exact g9y hf h0 hb
theorem g4w (d:Desk) (hf:FitE d.eng) (h:SmD d) (u i s:Int) (vars:List Int) (hv:vars.length < 2 ^ 62):fo 65 [A (.agg (dT d)),A (vI u),A (vI i),A (vI s),A (iS vars)]=some (RDk (a7v d u i s vars)):=by
 have hc:=h.claims
 have g1:=g8a d hf (by omega) u i s
 have g2:=e1c d.claims h.claims
 have g4:=g7p d.eng hf h.eng i s vars hv
 unfold a7v
 cases q:eqI (L8 d u i s) 0
 ·have e:a7a d u i s=(0,L8 d u i s):=by unfold a7a; rw [q]; rfl
  rw [e] at g1
  refine c7x 1 ?_
  simp (maxSteps:=1000000) +contextual -dsimp [f65,g1,q,a1n,noD,List.set]
 ·have e0:L8 d u i s=0:=by simpa [eqI] using q
  obtain ⟨p1,p2⟩:=i1h e0
  cases q2:eqI (U1 d.claims i s) u
  ·have e:=p2 q2
   generalize a7a d u i s=p at *
   obtain ⟨a,b⟩:=p
   simp only at e
   subst e
   have h10:eqI 10 0=false:=rfl
   refine c7x 1 ?_
   simp (maxSteps:=1000000) +contextual -dsimp [f65,g1,h10,a1n,noD,List.set]
  ·obtain ⟨e,hp,hw⟩:=p1 q2
   rw [e] at g1
   have hact:=fun hz=>d3d hf (b4q e0).1 (i:=i) (s:=s) (vars:=vars) hz i s
   have hwl:(U6 d.claims i s).length≤1048576:=by
    unfold U6; exact Nat.le_trans (List.length_filter_le _ _) h.claims
   rw [hw] at hact hwl ⊢
   have h60:=(b2e (b4q e0).1).2.1
   generalize M5 d.claims ⟨i,s,0⟩=p at *
   have g3:=g9w d.claims p hp
   have g5:=h3o _ hwl _ hact
   have hcl:=a2r (d.claims.take p++d.claims.drop (p+1))
   generalize hr:d.claims.take p++d.claims.drop (p+1)=r at *
   generalize a0i d.eng i s vars=o at *
   have hwr:IntKind.i64.wrap ((p:Int)+1)=(p:Int)+1:=by rw [A5] <;> omega
   have h00:eqI 0 0=true:=rfl
   have s3:=b3x r
   generalize b2q r o=t at *
   refine c7x 1 ?_
   simp (maxSteps:=1000000) +contextual -dsimp [f65,g1,g2,g3,g4,g5,hwr,h00,hcl,s3,List.set]
abbrev z64:List T:=[vI 0,vI 0,.own 160 [],.own 163 [],vI 0,.own 150 []]
abbrev b3j (r:EngR) (acc:List Claim):List T:=[vI 0,vI r.value,.sl 160 (r.eng.procs.map (pT 124 219)),.sl 163 (r.eng.insts.map xT),vI r.eng.now,.own 150 (acc.map kT)]
theorem i1l (r:EngR) (c:Claim) (h:ActsAt r.eng c.inst):fo 175 [A (.ipt [.sl 160 (r.eng.procs.map (pT 124 219)),.sl 163 (r.eng.insts.map xT),vI r.eng.now]),A (vI c.inst),A (vI c.step)]=some (R (vB (V7 r.eng c.inst c.step))):=by
 obtain ⟨i,a,hi,ha,e1,hx,hl,hac⟩:=h
 have g:=c3q r.eng [] i hi a hx ha hl hac c.step
 rw [← e1] at g
 exact g
theorem i6l (l:List Claim) (hl:l.length≤1048576) (r:EngR) (h:∀ c,c∈l→ActsAt r.eng c.inst):
  A6 E (orc E) (148:Nat) (l.length+1) (A8 f148 0) ⟨49,[(0,.sl 150 (l.map kT)),(3,.ptr 3 1 [] 0),(4,.ptr 4 1 [] 0),(5,.ptr 5 1 [] 0),(6,vI (0:Nat))],[(3,⟨1,1,true,erT r⟩),(4,⟨1,1,true,z64⟩),(5,⟨1,1,true,b3j r []⟩)],2⟩=
  some (.exit 0,⟨49,[(0,.sl 150 (l.map kT)),(3,.ptr 3 1 [] 0),(4,.ptr 4 1 [] 0),(5,.ptr 5 1 [] 0),(6,vI l.length),(22,vB false)],[(3,⟨1,1,true,erT r⟩),(4,⟨1,1,true,z64⟩),(5,⟨1,1,true,b3j r (a3f r.eng l)⟩)],2⟩):=by
 have h0:=a4h (σ:=List Claim) (f:=148) (id:=0) (code:=A8 f148 0) l (fun k acc=>acc.length≤k)
  (fun k acc=>⟨49,[(0,.sl 150 (l.map kT)),(3,.ptr 3 1 [] 0),(4,.ptr 4 1 [] 0),(5,.ptr 5 1 [] 0),(6,vI k)],[(3,⟨1,1,true,erT r⟩),(4,⟨1,1,true,z64⟩),(5,⟨1,1,true,b3j r acc⟩)],2⟩) (fun _ acc x=>if V7 r.eng x.inst x.step=true then acc++[x] else acc)
  (fun acc=>⟨49,[(0,.sl 150 (l.map kT)),(3,.ptr 3 1 [] 0),(4,.ptr 4 1 [] 0),(5,.ptr 5 1 [] 0),(6,vI l.length),(22,vB false)],[(3,⟨1,1,true,erT r⟩),(4,⟨1,1,true,z64⟩),(5,⟨1,1,true,b3j r acc⟩)],2⟩)
 have h2:=h0 ?_ ?_ [] (Nat.le_refl _)
 ·rw [c0z (fun x:Claim=>V7 r.eng x.inst x.step)] at h2; simpa [a3f] using h2
 ·intro k acc _
  have hlt:=a2m l.length
  simp +contextual -dsimp [f148,hlt]
 ·intro k j acc hi hI
  have hlt:=P7 hi
  have hw:=P1 hi (by omega)
  have hcap:acc.length+1≤C2:=by unfold C2; omega
  have g:=i1l r l[j] (h _ (List.getElem_mem hi))
  cases q:V7 r.eng l[j].inst l[j].step
  ·rw [q] at g
   refine ⟨?_,by simp; omega⟩
   simp (maxSteps:=1000000) +contextual -dsimp [f148,hlt,hi,hw,hcap,g,List.set]
  ·rw [q] at g
   refine ⟨?_,by simp; omega⟩
   simp (maxSteps:=1000000) +contextual -dsimp [f148,hlt,hi,hw,hcap,g,List.set]
def b6g (l:List Claim) (r:EngR):Res:=if A0 (eqI r.code 0)=true then RDk (a1n r.code) else ⟨.agg (b3j r (a3f r.eng l)),[],false⟩
theorem g5u (l:List Claim) (hl:l.length≤1048576) (r:EngR) (h:r.code=0→∀ c,c∈l→ActsAt r.eng c.inst):fo 148 [A (.sl 150 (l.map kT)),A (.agg (erT r))]=some (b6g l r):=by
 unfold b6g
 cases q:eqI r.code 0
 ·have g:=c5d r.code
  refine e4c 1 ?_
  simp (maxSteps:=1000000) +contextual -dsimp [f148,q,g,a1n,noD,List.set]
 ·have q0:r.code=0:=by simpa [eqI] using q
  have hlp:=i6l l hl r (h q0)
  simp -dsimp [f148] at hlp
  have s3:=a2r (a3f r.eng l)
  generalize a3f r.eng l=k at *
  obtain ⟨code,value,⟨ps,xs,now⟩⟩:=r
  simp only at *
  subst q0
  simp only [b3j,erT,z64,List.map_nil] at hlp
  refine e4c (l.length+1) ?_
  simp (maxSteps:=1000000) +contextual -dsimp [f148,hlp,s3,B7,List.set]
def b3t (d:Desk) (u i s:Int) (vars:List Int):Res:=
 if A0 (eqI (L8 d u i s) 0)=true then RDk (a1n (L8 d u i s))
 else if eqI (U1 d.claims i s) u=true then b6g (U6 d.claims i s) (a0i d.eng i s vars) else RDk (a1n 10)
theorem g4c (d:Desk) (hf:FitE d.eng) (h:SmD d) (u i s:Int) (vars:List Int):fo 64 [A (.agg (dT d)),A (vI u),A (vI i),A (vI s),A (iS vars)]=some (b3t d u i s vars):=by
 have hc:=h.claims
 have g1:=g7m d hf (by omega) u i s
 have g2:=c5d (L8 d u i s)
 have g3:=h3j d hc i s
 have g4:=c5d 10
 have g6:=g4v d.claims hc i s
 have g7:=g5t d.eng hf h.eng i s vars
 unfold b3t
 cases q:eqI (L8 d u i s) 0
 ·refine b9q 1 ?_
  simp (maxSteps:=1000000) +contextual -dsimp [f64,g1,g2,q,a1n,noD,List.set]
 ·cases q2:eqI (U1 d.claims i s) u
  ·refine b9q 1 ?_
   simp (maxSteps:=1000000) +contextual -dsimp [f64,g1,q,g3,q2,g4,a1n,noD,List.set]
  ·have e0:L8 d u i s=0:=by simpa [eqI] using q
   have hwl:(U6 d.claims i s).length≤1048576:=by
    unfold U6; exact Nat.le_trans (List.length_filter_le _ _) hc
   have g8:=g5u _ hwl _ fun hz=>d3d hf (b4q e0).1 (i:=i) (s:=s) (vars:=vars) hz i s
   have s0:=b3x (U6 d.claims i s)
   generalize U6 d.claims i s=l at *
   have s1:=b4b (a0i d.eng i s vars).eng.procs
   have s2:=b4c (a0i d.eng i s vars).eng.insts
   generalize a0i d.eng i s vars=r at *
   unfold b6g at g8 ⊢
   cases q3:eqI r.code 0
   ·rw [q3] at g8
    refine b9q 1 ?_
    simp (maxSteps:=1000000) +contextual -dsimp [f64,g1,q,g3,q2,g6,g7,g8,s0,s1,s2,a1n,noD,List.set]
   ·rw [q3] at g8
    have s3:=a2r (a3f r.eng l)
    generalize a3f r.eng l=k at *
    refine b9q 1 ?_
    simp (maxSteps:=1000000) +contextual -dsimp [f64,g1,q,g3,q2,g6,g7,g8,s0,s1,s2,s3,List.set]
end Go.TM.Ft
namespace Go.TM.Ft
open Go Go.TM Go.Proofs Go.Proofs.Tryz
section
variable (P:Program) (t:TypeId) (x y:Operand)
theorem i4t (a:Int):D6 Tryz.prog (convert 3 5 (.int .i64 a))=some (.int .u8 (IntKind.u8.wrap a)):=by kernel_rfl
theorem i6m:D6 Tryz.prog (b0i 88 9)=some true:=by kernel_rfl
end
set_option maxRecDepth 20000
attribute [local congr] M0
attribute [local simp] K2 K6 J4 K3 H7 J9 H8 G9 J1 G3
section
variable (P:Program) (t:TypeId) (x y:Operand)
theorem h3p (a:Int):D6 P (do eqGuard .rem t x y (.int .i64 a) (.int .i64 10); binOp .rem t (.int .i64 a) (.int .i64 10))=some (.int .i64 (Int.tmod a 10)):=rfl
theorem h3q (a:Int):D6 P (do eqGuard .quo t x y (.int .i64 a) (.int .i64 10); binOp .quo t (.int .i64 a) (.int .i64 10))=some (.int .i64 (IntKind.i64.wrap (Int.tdiv a 10))):=c7r P t x y a 10 (by omega)
theorem f5x (a b:ByteArray) (h:a.size+b.size < 2 ^ 62):D6 P (do eqGuard .add t x y (.string a) (.string b); binOp .add t (.string a) (.string b))=some (.string (a++b)):=by
 have e:¬ (((a.size+b.size:Nat):Int) > IntKind.i64.max):=by
  have:IntKind.i64.max=9223372036854775807:=rfl
  rw [this]; omega
 unfold binOp
 simp only [eqGuard,Op.stringOp,if_neg e]
 rfl
end
theorem g3g:∀ (f:Nat) (k:Int) (out:ByteArray),0≤k→k < 10 ^ f→k < 2 ^ 61→out.size+f≤100→
  ∃ s:ByteArray,s.size≤100∧A6 E (orc E) (85:Nat) (f+1) (A8 f85 0) ⟨20,[(0,vI k),(3,vS out)],[],2⟩=some (.exit 0,⟨20,[(0,vI 0),(3,vS s),(7,vB false)],[],2⟩)
 | f,k,out,h0,h1,h2,h3=>by
  rcases Int.lt_or_eq_of_le h0 with hk | hk
  ·match f with
   | 0=>simp at h1; omega
   | f+1=>
    have hlt:ltI 0 k=true:=C4 hk
    have hm0:0≤k.tmod 10:=Int.tmod_nonneg _ h0
    have hm1:k.tmod 10 < 10:=Int.tmod_lt_of_pos _ (by omega)
    have w:IntKind.i64.wrap (48+k.tmod 10)=48+k.tmod 10:=by rw [A5] <;> omega
    have ed:k.tdiv 10=k / 10:=Int.tdiv_eq_ediv_of_nonneg h0
    have hd0:0≤k.tdiv 10:=by rw [ed]; omega
    have hd1:k.tdiv 10 < 10 ^ f:=by rw [ed]; rw [Int.pow_succ] at h1; omega
    have hd2:k.tdiv 10 < 2 ^ 61:=by rw [ed]; omega
    have w2:IntKind.i64.wrap (k.tdiv 10)=k.tdiv 10:=by rw [A5] <;> omega
    obtain ⟨b,w3⟩:∃ b,IntKind.u8.wrap (48+k.tmod 10)=b:=⟨_,rfl⟩
    have hs:(⟨#[UInt8.ofNat b.toNat]⟩:ByteArray).size=1:=rfl
    have hsz:((⟨#[UInt8.ofNat b.toNat]⟩:ByteArray)++out).size=1+out.size:=by rw [ByteArray.size_append,hs]
    obtain ⟨s,g1,g2⟩:=g3g f (k.tdiv 10) (⟨#[UInt8.ofNat b.toNat]⟩++out) hd0 hd1 hd2 (by rw [hsz]; omega)
    have p1:=h3p Tryz.prog 3 (.tmp 8) (.const (.int .i64 10)) k
    have p2:=h3q Tryz.prog 3 (.tmp 16) (.const (.int .i64 10)) k
    have p3:=f5x Tryz.prog 9 (.tmp 13) (.tmp 14) ⟨#[UInt8.ofNat b.toNat]⟩ out (by rw [hs]; omega)
    refine ⟨s,g1,C1 ?_ g2⟩
    generalize (⟨#[UInt8.ofNat b.toNat]⟩:ByteArray)++out=out' at *
    generalize k.tdiv 10=d at *
    simp (maxSteps:=1000000) +contextual -dsimp [f85,hlt,p1,p2,p3,i4t,i6m,w,w2,w3,a7s,List.set]
  ·subst hk
   have hlt:ltI 0 0=false:=rfl
   refine ⟨out,by omega,D3 ?_ (by simp)⟩
   simp (maxSteps:=1000000) +contextual -dsimp [f85,hlt,List.set]
theorem g5v (k:Int) (h0:0≤k) (h1:k < 2 ^ 61):∃ s:ByteArray,fo 85 [A (vI k)]=some (R (vS s)):=by
 cases q:leI k 0
 ·obtain ⟨s,h2,h3⟩:=g3g 20 k ⟨#[]⟩ h0 (by omega) h1 (by show 0+20≤100; omega)
  have hs:(⟨#[109]⟩:ByteArray).size=1:=rfl
  have p3:=f5x Tryz.prog 9 (.const (.string ⟨#[109]⟩)) (.tmp 18) ⟨#[109]⟩ s (by rw [hs]; omega)
  refine ⟨⟨#[109]⟩++s,f7s 21 ?_⟩
  simp -dsimp [f85] at h3
  simp (maxSteps:=1000000) +contextual -dsimp [f85,q,h3,p3,List.set]
 ·refine ⟨⟨#[109,48]⟩,f7s 1 ?_⟩
  simp (maxSteps:=1000000) +contextual -dsimp [f85,q,List.set]
open Classical in
noncomputable def a7f (k:Int):ByteArray:=if h:∃ s:ByteArray,fo 85 [A (vI k)]=some (R (vS s)) then Classical.choose h else ⟨#[]⟩
theorem d4q (k:Int) (h0:0≤k) (h1:k < 2 ^ 61):fo 85 [A (vI k)]=some (R (vS (a7f k))):=by
 have h:=g5v k h0 h1
 unfold a7f
 rw [dif_pos h]
 exact Classical.choose_spec h
def b1q (x:EngR):Nat:=D8 x.eng
def a3o (x:DeskR):Nat:=K9 x.desk
end Go.TM.Ft
