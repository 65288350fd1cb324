/- What functions of the program come to, by the machine. -/
import Derived.Test.YtlmiemdojgahaaaGreatPL8
import Derived.Test.YtlmiemdojgahaaaGreatPL7
set_option linter.unusedSimpArgs false
set_option linter.unusedVariables false
namespace Go.TM.Ft
open Go Go.TM Go.Proofs
set_option maxRecDepth 20000
attribute [local congr] gif_cg
attribute [local simp] footOf noClash clash upsets setsHit setHits layHits layMeets setsMeet evFeet seal4_iE seal4_set pr_mulX
theorem f_l3Bool (b:Bool):fo 297 [A (vB b)]=some (R (vI (ci b 1))):=by
 refine orc_297 1 ?_
 cases b <;> simp (maxSteps:=1000000) +contextual -dsimp [Tryz.f297,ci]
def one4 (k a b:Int):Int × Bool:=if zdiv k b=true then (0,false) else (rawM k a b,notB (badV (rawM k a b)))
set_option maxHeartbeats 1000000 in
theorem f_l3One (k a b:Int) (ha1:-1000000≤a) (ha2:a≤1000000) (hb1:-1000000≤b) (hb2:b≤1000000):
  fo 271 [A (vI k),A (vI a),A (vI b)]=some (R2 (vI (one4 k a b).1) (vB (one4 k a b).2)):=by
 have hm:=mul_bd ha1 ha2 hb1 hb2
 have hd:=tdiv_bd (b:=b) ha1 ha2
 have w1:IntKind.i64.wrap (a+b)=a+b:=by rw [wrapI] <;> omega
 have w2:IntKind.i64.wrap (a - b)=a - b:=by rw [wrapI] <;> omega
 have w3:IntKind.i64.wrap (a*b)=a*b:=by rw [wrapI] <;> omega
 have w4:IntKind.i64.wrap (Int.tdiv a b)=Int.tdiv a b:=by rw [wrapI] <;> omega
 have w5:IntKind.i64.wrap (1 - a)=1 - a:=by rw [wrapI] <;> omega
 have hn:∀ v,notB (badV v)=inR v (-1000000) 1000000:=fun v=>by simp [badV,notB]
 refine orc_271 1 ?_
 by_cases h3:k=3
 ·subst h3
  simp (maxSteps:=1000000) +contextual -dsimp [Tryz.f271,w1,one4,zdiv,rawM,hn,f_l1In,eqI_self,show eqI 3 6=false from rfl,andB]
 by_cases h4:k=4
 ·subst h4
  simp (maxSteps:=1000000) +contextual -dsimp [Tryz.f271,w2,one4,zdiv,rawM,hn,f_l1In,eqI_self,show eqI 4 6=false from rfl,show eqI 4 3=false from rfl,andB]
 by_cases h5:k=5
 ·subst h5
  simp (maxSteps:=1000000) +contextual -dsimp [Tryz.f271,w3,one4,zdiv,rawM,hn,f_l1In,eqI_self,show eqI 5 6=false from rfl,show eqI 5 3=false from rfl,show eqI 5 4=false from rfl,andB]
 by_cases h6:k=6
 ·subst h6
  by_cases hb:b=0
  ·subst hb
   simp (maxSteps:=1000000) +contextual -dsimp [Tryz.f271,one4,zdiv,eqI_self,show eqI 6 3=false from rfl,show eqI 6 4=false from rfl,show eqI 6 5=false from rfl,andB]
  ·have q:=pr_quoX Tryz.prog 2 (.tmp 31) (.tmp 32) a b hb
   have hb':eqI b 0=false:=by simp [eqI,hb]
   simp (maxSteps:=1000000) +contextual -dsimp [Tryz.f271,w4,q,hb',one4,zdiv,rawM,hn,f_l1In,eqI_self,show eqI 6 3=false from rfl,show eqI 6 4=false from rfl,show eqI 6 5=false from rfl,andB]
 by_cases h7:k=7
 ·subst h7
  simp (maxSteps:=1000000) +contextual -dsimp [Tryz.f271,f_l3Bool,one4,zdiv,rawM,hn,f_l1In,eqI_self,show eqI 7 6=false from rfl,show eqI 7 3=false from rfl,show eqI 7 4=false from rfl,show eqI 7 5=false from rfl,andB]
 by_cases h8:k=8
 ·subst h8
  simp (maxSteps:=1000000) +contextual -dsimp [Tryz.f271,f_l3Bool,one4,zdiv,rawM,hn,f_l1In,eqI_self,show eqI 8 6=false from rfl,show eqI 8 3=false from rfl,show eqI 8 4=false from rfl,show eqI 8 5=false from rfl,show eqI 8 7=false from rfl,andB]
 have f3:eqI k 3=false:=by simp [eqI,h3]
 have f4:eqI k 4=false:=by simp [eqI,h4]
 have f5:eqI k 5=false:=by simp [eqI,h5]
 have f6:eqI k 6=false:=by simp [eqI,h6]
 have f7:eqI k 7=false:=by simp [eqI,h7]
 have f8:eqI k 8=false:=by simp [eqI,h8]
 cases q9:eqI k 9
 ·simp (maxSteps:=1000000) +contextual -dsimp [Tryz.f271,w5,one4,zdiv,rawM,hn,f_l1In,f3,f4,f5,f6,f7,f8,q9,andB]
 ·simp (maxSteps:=1000000) +contextual -dsimp [Tryz.f271,w3,one4,zdiv,rawM,hn,f_l1In,f3,f4,f5,f6,f7,f8,q9,andB]
abbrev ev4S (l:List Node) (vars:List Int) (i:Nat) (acc:List Int):St:=
 ⟨65,[(0,nS 219 l),(1,iS vars),(6,.ref 6 1 [] 0 acc.length),(7,vI i)],[(6,⟨1,1,false,[.own 2 (iE acc)]⟩)],2⟩
set_option maxHeartbeats 4000000 in
theorem lp227 (l:List Node) (ok:ExprOk l) (vars:List Int) (hv:vars.length=4) (hr:∀ x,x∈vars→badV x=false):
  Goes 0 (fun acc=>⟨65,[(0,nS 219 l),(1,iS vars),(6,.ref 6 1 [] 0 acc.length),(7,vI l.length),(16,vB false)],[(6,⟨1,1,false,[.own 2 (iE acc)]⟩)],2⟩)
   (fun _ st=>∃ rt,st=⟨65,[(4,vI 0),(5,vB false)],rt,2⟩) (evLoop E (orc E) (227:Nat) (l.length+1) (loopOf Tryz.f227 0) (ev4S l vars 0 [])) (foldS (evG vars) 0 [] l):=by
 have hle:=ok.le
 have h:=loop_list (f:=227) (id:=0) (code:=loopOf Tryz.f227 0) l (Vals l) (ev4S l vars) (evG vars) (fun acc=>⟨65,[(0,nS 219 l),(1,iS vars),(6,.ref 6 1 [] 0 acc.length),(7,vI l.length),(16,vB false)],[(6,⟨1,1,false,[.own 2 (iE acc)]⟩)],2⟩)
  (fun _ st=>∃ rt,st=⟨65,[(4,vI 0),(5,vB false)],rt,2⟩)
 refine h ?_ ?_ l 0 [] rfl (Nat.zero_le _) ⟨rfl,fun k h=>by simp at h,fun k h=>by simp at h⟩
 ·intro k s _
  have hlt:=ltN_f l.length
  simp +contextual -dsimp [Tryz.f227,hlt]
 ·intro k i acc hi hI
  have hn:l[i]?=some l[i]:=List.getElem?_eq_getElem hi
  have hal:=hI.len
  have hlt:=ltN_t hi
  have hw:=wrap1 hi (by omega)
  have hm1:acc.length+1≤maxElems:=by unfold maxElems; omega
  unfold evG nodeBad
  generalize hc:l[i]=n at *
  have nk:=node_kinds (ok.node i n hn)
  have nx:badV (nodeV vars acc n)=false→Vals l (i+1) (acc++[nodeV vars acc n]):=fun hb=>by
   have:=hI.next ok hi (vars:=vars)
   rw [hc] at this
   exact this hb
  generalize hnv:nodeV vars acc n=v at *
  by_cases k1:n.kind=1
  ·have ev:v=n.value:=by rw [← hnv]; simp [nodeV,k1,eqI]
   have ez:zdiv n.kind (szAt acc n.right)=false:=by simp [zdiv,k1,eqI,andB]
   rw [← ev] at nk
   cases hb:badV v
   ·refine ⟨fun s' hs=>?_,fun e he=>by simp [ez,hb,orB] at he⟩
    simp [ez,hb,orB] at hs
    subst hs
    refine ⟨?_,nx hb⟩
    simp (maxSteps:=1000000) +contextual -dsimp [Tryz.f227,hlt,hi,hc,hw,hm1,k1,← ev,show eqI 1 2=false from rfl,show ltI 2 1=false from rfl,List.set]
   ·exfalso
    simp [badV,notB,inR,andB,leI] at hb
    omega
  by_cases k2:n.kind=2
  ·obtain ⟨m,hm⟩:=Int.eq_ofNat_of_zero_le (show 0≤n.value by omega)
   have hml:m < vars.length:=by omega
   have ev:v=vars[m]:=by rw [← hnv]; unfold nodeV; rw [if_neg (by simp [k2,eqI]),if_pos (by simp [k2,eqI]),hm,szAt_lt hml]
   have ez:zdiv n.kind (szAt acc n.right)=false:=by simp [zdiv,k2,eqI,andB]
   have hb:badV v=false:=by rw [ev]; exact hr _ (List.getElem_mem _)
   refine ⟨fun s' hs=>?_,fun e he=>by simp [ez,hb,orB] at he⟩
   simp [ez,hb,orB] at hs
   subst hs
   refine ⟨?_,nx hb⟩
   simp (maxSteps:=1000000) +contextual -dsimp [Tryz.f227,hlt,hi,hc,hw,hm1,k2,hm,hml,← ev,eqI_self,show ltI 2 2=false from rfl,List.set]
  have k3:2 < n.kind:=by omega
  obtain ⟨a,ha⟩:=Int.eq_ofNat_of_zero_le (show 0≤n.left by omega)
  obtain ⟨b,hb⟩:=Int.eq_ofNat_of_zero_le (show 0≤n.right by omega)
  have hal2:a < acc.length:=by omega
  have hbl2:b < acc.length:=by omega
  have ra:=hI.rng a hal2
  have rb:=hI.rng b hbl2
  have e2:eqI n.kind 2=false:=by simp [eqI]; omega
  have e3:ltI 2 n.kind=true:=by simp [ltI]; omega
  have ev:v=rawM n.kind acc[a] acc[b]:=by rw [← hnv]; unfold nodeV; rw [if_neg (by simp [eqI]; omega),if_neg (by simp [eqI]; omega),ha,hb,szAt_lt hal2,szAt_lt hbl2]
  have ez:zdiv n.kind (szAt acc n.right)=zdiv n.kind acc[b]:=by rw [hb,szAt_lt hbl2]
  have g:=f_l3One n.kind acc[a] acc[b] ra.1 ra.2 rb.1 rb.2
  unfold one4 at g
  rw [← ev,← ez] at g
  cases hz:zdiv n.kind (szAt acc n.right)
  ·rw [hz,if_neg (by simp)] at g
   cases hbv:badV v
   ·refine ⟨fun s' hs=>?_,fun e he=>by simp [hbv,orB] at he⟩
    simp [hbv,orB] at hs
    subst hs
    refine ⟨?_,nx hbv⟩
    rw [hbv,notB_f] at g
    simp (maxSteps:=1000000) +contextual -dsimp [Tryz.f227,hlt,hi,hc,hw,hm1,ha,hb,hal2,hbl2,e2,e3,g,List.set]
   ·refine ⟨fun s' hs=>by simp [hbv,orB] at hs,fun e he=>⟨_,?_,[(6,⟨1,1,false,[.own 2 (iE acc)]⟩)],rfl⟩⟩
    rw [hbv,notB_t] at g
    simp (maxSteps:=1000000) +contextual -dsimp [Tryz.f227,hlt,hi,hc,hw,hm1,ha,hb,hal2,hbl2,e2,e3,g,List.set]
  ·rw [hz,if_pos rfl] at g
   refine ⟨fun s' hs=>by simp [orB] at hs,fun e he=>⟨_,?_,[(6,⟨1,1,false,[.own 2 (iE acc)]⟩)],rfl⟩⟩
   simp (maxSteps:=1000000) +contextual -dsimp [Tryz.f227,hlt,hi,hc,hw,hm1,ha,hb,hal2,hbl2,e2,e3,g,List.set]
theorem f_l3Eval (l:List Node) (ok:ExprOk l) (vars:List Int) (hv:vars.length=4) (hr:∀ x,x∈vars→badV x=false):fo 227 [A (nS 219 l),A (iS vars)]=some (RE (evalM l vars)):=by
 have hlp:=lp227 l ok vars hv hr
 have hpos:=ok.pos
 have hle:=ok.le
 refine orc_227 (l.length+1) ?_
 unfold evalM
 cases q:foldS (evG vars) 0 [] l with
 | inl e=>
  rw [q] at hlp
  obtain ⟨_,hlp,rt,rfl⟩:=hlp
  simp -dsimp [Tryz.f227,ev4S,iE] at hlp
  simp (maxSteps:=1000000) +contextual -dsimp [Tryz.f227,hlp,RE,List.set]
 | inr acc=>
  rw [q] at hlp
  unfold Goes at hlp
  simp -dsimp [Tryz.f227,ev4S,iE] at hlp
  have hlen:=ev_len q
  simp at hlen
  have hlt:l.length - 1 < acc.length:=by omega
  have hw:IntKind.i64.wrap ((acc.length:Int) - 1)=((l.length - 1:Nat):Int):=by rw [wrapI] <;> omega
  have e1:szAt acc ((l.length:Int) - 1)=acc[l.length - 1]:=by
   have:((l.length:Int) - 1)=((l.length - 1:Nat):Int):=by omega
   rw [this,szAt_lt hlt]
  simp (maxSteps:=1000000) +contextual -dsimp [Tryz.f227,hlp,hw,hlt,e1,RE,List.set]
end Go.TM.Ft
namespace Go.TM.Ft
open Go Go.TM Go.Proofs
set_option maxRecDepth 20000
attribute [local congr] gif_cg
attribute [local simp] footOf noClash clash upsets setsHit setHits layHits layMeets setsMeet evFeet seal4_iE seal4_set
abbrev cO (c:Chart):List T:=[vI c.status,vI c.now,.own 2 (iE c.vars),.own 2 (iE c.acts),.own 2 (iE c.dues)]
abbrev aC (c:Chart):Arg:=⟨.ptr 1 0 [] 0,some ⟨0,1,true,cO c⟩⟩
abbrev aC0 (c:Chart):Arg:=⟨.ptr 0 0 [] 0,some ⟨0,1,true,cO c⟩⟩
abbrev RC (c:Chart):Res:=⟨.tup [],[(1,cO c)],true⟩
abbrev RC0 (c:Chart):Res:=⟨.tup [],[(0,cO c)],true⟩
theorem zeros_fold {α:Type}:∀ (r:List α) (i:Nat) (xs:List Int),i+r.length=xs.length→foldI (fun (i:Nat) (xs:List Int) (_:α)=>xs.set i 0) i xs r=xs.take i++List.replicate r.length 0
 | [],i,xs,h=>by
  simp only [foldI,List.length_nil,List.replicate_zero,List.append_nil]
  rw [List.take_of_length_le (by simp at h; omega)]
 | x::r,i,xs,h=>by
  simp only [foldI]
  rw [zeros_fold r (i+1) (xs.set i 0) (by simp at h ⊢; omega)]
  simp only [List.length_cons] at h
  rw [List.take_succ_eq_append_getElem (by simp; omega),List.take_set_of_le (Nat.le_refl _)]
  simp [List.replicate_succ]
theorem end_fold {α:Type}:∀ (r:List α) (i:Nat) (c:Chart),foldI (fun (i:Nat) (c:Chart) (_:α)=>{ c with acts:=c.acts.set i 0,dues:=c.dues.set i 0 }) i c r=
  { c with acts:=foldI (fun (i:Nat) (xs:List Int) (_:α)=>xs.set i 0) i c.acts r,dues:=foldI (fun (i:Nat) (xs:List Int) (_:α)=>xs.set i 0) i c.dues r }
 | [],i,c=>rfl
 | x::r,i,c=>by simp only [foldI]; rw [end_fold r]
set_option maxHeartbeats 1000000 in
theorem lp226 (c:Chart) (hd:c.dues.length=c.acts.length) (hn:c.acts.length < 2 ^ 62):
  evLoop E (orc E) (226:Nat) (c.acts.length+1) (loopOf Tryz.f226 0) ⟨30,[(0,.ptr 0 0 [] 0),(4,vI (0:Nat))],[(0,⟨0,1,true,cO c⟩)],2⟩=
  some (.exit 0,⟨30,[(0,.ptr 0 0 [] 0),(4,vI c.acts.length),(15,vB false)],[(0,⟨0,1,true,cO { c with acts:=List.replicate c.acts.length 0,dues:=List.replicate c.acts.length 0 }⟩)],2⟩):=by
 have h:=loop_all (f:=226) (id:=0) (code:=loopOf Tryz.f226 0) c.acts (fun _ c'=>c'.acts.length=c.acts.length∧c'.dues.length=c.acts.length)
  (fun i c'=>⟨30,[(0,.ptr 0 0 [] 0),(4,vI i)],[(0,⟨0,1,true,cO c'⟩)],2⟩) (fun (i:Nat) (c:Chart) (_:Int)=>{ c with acts:=c.acts.set i 0,dues:=c.dues.set i 0 })
  (fun c'=>⟨30,[(0,.ptr 0 0 [] 0),(4,vI c.acts.length),(15,vB false)],[(0,⟨0,1,true,cO c'⟩)],2⟩)
 have h2:=h ?_ ?_ c ⟨rfl,hd⟩
 ·rw [end_fold,zeros_fold _ _ _ (by simp),zeros_fold _ _ _ (by simp [hd])] at h2
  simpa using h2
 ·intro k c' hI
  have hlt:=ltN_f c.acts.length
  have e:=hI.1
  simp +contextual -dsimp [Tryz.f226,hlt,e]
 ·intro k i c' hi hI
  have hlt:=ltN_t hi
  have hw:=wrap1 hi hn
  have e:=hI.1
  have e1:i < c'.acts.length:=by omega
  have e2:i < c'.dues.length:=by omega
  refine ⟨?_,by simp; exact hI⟩
  simp (maxSteps:=1000000) +contextual -dsimp [Tryz.f226,hlt,hi,hw,e,e1,e2,List.set]
set_option maxHeartbeats 1000000 in
theorem f_l9End {l:List Step} (c:Chart) (ha:c.acts.length=l.length) (hd:c.dues.length=l.length) (hl:l.length≤1000) (st:Int):fo 226 [aC0 c,A (vI st)]=some (RC0 (stopC l st c)):=by
 have hlp:=lp226 { c with status:=st } (by simp [ha,hd]) (by simp [ha]; omega)
 simp only [ha] at hlp
 refine orc_226 (l.length+1) ?_
 simp -dsimp [Tryz.f226] at hlp
 simp (maxSteps:=1000000) +contextual -dsimp [Tryz.f226,hlp,stopC,List.set]
def runs4 (l:List Step) (a:Nat):Nat→Nat→List Int
 | 0,_=>[]
 | f+1,i=>if andB (ltI (i:Int) l.length) (ltI (dep l a) (dep l i))=true then (i:Int)::runs4 l a f (i+1) else []
set_option maxHeartbeats 2000000 in
theorem lp250 {l:List Step} (w:Wf l) (a:Nat) (ha:a < l.length):∀ (f i:Nat) (acc:List Int),i+f=l.length→acc.length≤i→
  ∃ n:Nat,evLoop E (orc E) (250:Nat) (f+1) (loopOf Tryz.f250 0) ⟨31,[(0,.sl 124 (l.map (sT 219))),(1,vI a),(5,.ref 5 1 [] 0 acc.length),(6,vI i)],[(5,⟨1,1,false,[.own 2 (iE acc)]⟩)],2⟩=
  some (.exit 0,⟨31,[(0,.sl 124 (l.map (sT 219))),(1,vI a),(5,.ref 5 1 [] 0 (acc++runs4 l a f i).length),(6,vI n),(23,vB false)],[(5,⟨1,1,false,[.own 2 (iE (acc++runs4 l a f i))]⟩)],2⟩)
 | 0,i,acc,h,hb=>by
  have hlt:ltI (i:Int) (l.length:Int)=false:=ltI_f (by omega)
  refine ⟨i,evLoop_out ?_ (by simp)⟩
  simp (maxSteps:=1000000) +contextual -dsimp [Tryz.f250,hlt,runs4]
 | f+1,i,acc,h,hb=>by
  have hi:i < l.length:=by omega
  have hl24:=w.ok.le
  have hlt:=ltN_t hi
  have hw:=wrap1 hi (by omega)
  have hm1:acc.length+1≤maxElems:=by unfold maxElems; omega
  have g1:=f_deep4 l hl24 i hi w.ahead
  have g2:=f_deep4 l hl24 a ha w.ahead
  rw [show deep4 l i=dep l i from rfl] at g1
  rw [show deep4 l a=dep l a from rfl] at g2
  cases q:ltI (dep l a) (dep l i)
  ·refine ⟨i,?_⟩
   have e:runs4 l a (f+1) i=[]:=by simp [runs4,q,andB]
   rw [e]
   refine evLoop_out ?_ (by simp)
   simp (maxSteps:=1000000) +contextual -dsimp [Tryz.f250,hlt,g1,g2,q]
  ·have e:runs4 l a (f+1) i=(i:Int)::runs4 l a f (i+1):=by simp [runs4,q,hlt,andB]
   obtain ⟨n,ih⟩:=lp250 w a ha f (i+1) (acc++[(i:Int)]) (by omega) (by simp; omega)
   refine ⟨n,?_⟩
   rw [e,show acc++(i:Int)::runs4 l a f (i+1)=(acc++[(i:Int)])++runs4 l a f (i+1) by simp]
   refine evLoop_next ?_ ih
   simp (maxSteps:=1000000) +contextual -dsimp [Tryz.f250,hlt,hw,hm1,g1,g2,q,List.set]
theorem runs4_eq {l:List Step} (w:Wf l) (a:Nat):∀ (f i:Nat),i+f=l.length→a < i→Und l a (i - 1)→runs4 l a f i=((List.range' i f).filter (undB l a)).map (fun x:Nat=>(x:Int))
 | 0,i,h,_,_=>by simp [runs4]
 | f+1,i,h,hai,hu=>by
  have hi:i < l.length:=by omega
  have hlt:=ltN_t hi
  rw [List.range'_succ]
  cases q:ltI (dep l a) (dep l i)
  ·have e:runs4 l a (f+1) i=[]:=by simp [runs4,q,andB]
   rw [e]
   have hd:¬ dep l a < dep l i:=by simp [ltI] at q; omega
   have hn:¬ Und l a i:=fun h=>hd ((w.piece hi h hai).2)
   have:(i::List.range' (i+1) f).filter (undB l a)=[]:=by
    rw [List.filter_eq_nil_iff]
    intro j hj hu2
    have hj2:i≤j∧j < l.length:=by
     rcases List.mem_cons.1 hj with rfl | hj
     ·exact ⟨Nat.le_refl _,hi⟩
     ·rw [List.mem_range'_1] at hj; omega
    have:=(undB_iff w hj2.2).1 hu2
    exact hn (w.between hj2.2 this (j - i) i (by omega) (by omega))
   rw [this]; rfl
  ·have e:runs4 l a (f+1) i=(i:Int)::runs4 l a f (i+1):=by simp [runs4,q,hlt,andB]
   have hd:dep l a < dep l i:=by simpa [ltI] using q
   have hu2:=w.piece2 hi hai hu hd
   rw [e,runs4_eq w a f (i+1) (by omega) (by omega) (by simpa using hu2),List.filter_cons_of_pos ((undB_iff w hi).2 hu2)]
   rfl
theorem under_same {l:List Step} (w:Wf l) (a:Nat) (ha:a < l.length):(a:Int)::runs4 l a (l.length - (a+1)) (a+1)=undsM l a:=by
 rw [undsM_eq,runs4_eq w a _ _ (by omega) (by omega) (by simpa using Und.self)]
 have e:l.length - a=(l.length - (a+1))+1:=by omega
 rw [e,List.range'_succ,List.filter_cons_of_pos ((undB_iff w ha).2 .self)]
 rfl
theorem f_l4Under {l:List Step} (w:Wf l) (a:Nat) (ha:a < l.length):fo 250 [A (.sl 124 (l.map (sT 219))),A (vI a)]=some ⟨.own 2 (iE (undsM l a)),[],true⟩:=by
 obtain ⟨n,hlp⟩:=lp250 w a ha (l.length - (a+1)) (a+1) [(a:Int)] (by omega) (by simp)
 have hw:=wrap1 ha (by have:=w.ok.le; omega)
 rw [List.singleton_append,under_same w a ha] at hlp
 have hc:cleanEs (iE (undsM l a))=true:=by generalize undsM l a=k; induction k <;> simp_all [cleanEs,cleanL,clean]
 refine orc_250 (l.length - (a+1)+1) ?_
 simp -dsimp [Tryz.f250,iE] at hlp
 simp (maxSteps:=1000000) +contextual -dsimp [Tryz.f250,hw,hlp,hc,List.set]
set_option maxHeartbeats 1000000 in
theorem lp197 (c:Chart) (ks:List Int) (hk:ks.length < 2 ^ 62) (hin:∀ k,k∈ks→∃ x:Nat,k=x∧x < c.acts.length∧x < c.dues.length):
  evLoop E (orc E) (197:Nat) (ks.length+1) (loopOf Tryz.f197 0) ⟨35,[(1,.ptr 1 0 [] 0),(6,iS ks),(7,vI (0:Nat))],[(1,⟨0,1,true,cO c⟩)],2⟩=
  some (.exit 0,⟨35,[(1,.ptr 1 0 [] 0),(6,iS ks),(7,vI ks.length),(14,vB false)],[(1,⟨0,1,true,cO (idleC ks c)⟩)],2⟩):=by
 have h:=loop_all (f:=197) (id:=0) (code:=loopOf Tryz.f197 0) ks (fun _ c'=>c'.acts.length=c.acts.length∧c'.dues.length=c.dues.length)
  (fun i c'=>⟨35,[(1,.ptr 1 0 [] 0),(6,iS ks),(7,vI i)],[(1,⟨0,1,true,cO c'⟩)],2⟩) (fun (_:Nat) (c:Chart) (k:Int)=>{ c with acts:=c.acts.set k.toNat 0,dues:=c.dues.set k.toNat 0 })
  (fun c'=>⟨35,[(1,.ptr 1 0 [] 0),(6,iS ks),(7,vI ks.length),(14,vB false)],[(1,⟨0,1,true,cO c'⟩)],2⟩)
 have h2:=h ?_ ?_ c ⟨rfl,rfl⟩
 ·rw [idle_fold] at h2; exact h2
 ·intro k c' _
  have hlt:=ltN_f ks.length
  simp +contextual -dsimp [Tryz.f197,hlt]
 ·intro k i c' hi hI
  obtain ⟨x,hx,h1,h2⟩:=hin ks[i] (List.getElem_mem hi)
  have hlt:=ltN_t hi
  have hw:=wrap1 hi hk
  have e1:x < c'.acts.length:=by omega
  have e2:x < c'.dues.length:=by omega
  refine ⟨?_,by simp; exact hI⟩
  simp (maxSteps:=1000000) +contextual -dsimp [Tryz.f197,hlt,hi,hw,hx,e1,e2,List.set]
set_option maxHeartbeats 1000000 in
theorem f_l9Idle {l:List Step} (w:Wf l) (c:Chart) (ha:c.acts.length=l.length) (hd:c.dues.length=l.length) (k:Nat) (hk:k < l.length):
  fo 197 [A (.sl 124 (l.map (sT 219))),aC c,A (vI k)]=some (RC (idleC (undsM l k) c)):=by
 have g:=f_l4Under w k hk
 have hle:=undsM_le l k
 have hl:=w.ok.le
 have hlp:=lp197 c (undsM l k) (by omega) (fun k hk=>by
  obtain ⟨x,h1,h2,h3,h4⟩:=undsM_mem hk
  exact ⟨x,h1,by omega,by omega⟩)
 refine orc_197 ((undsM l k).length+1) ?_
 simp -dsimp [Tryz.f197] at hlp
 simp (maxSteps:=1000000) +contextual -dsimp [Tryz.f197,g,hlp]
end Go.TM.Ft
namespace Go.TM.Ft
open Go Go.TM Go.Proofs
set_option maxRecDepth 20000
attribute [local congr] gif_cg
attribute [local simp] footOf noClash clash upsets setsHit setHits layHits layMeets setsMeet evFeet seal4_iE seal4_set
def choose4 (x:Int):Int:=if eqI x (-2)=true then -1 else x
set_option maxHeartbeats 4000000 in
theorem lp225 {l : List Step} (w : Wf l) (c : Chart) (hv : c.vars.length = 4) (hr0 : ∀ x, x ∈ c.vars → badV x = false) (all : List Int) (hall : all.length ≤ 24) (hks : ∀ k, k ∈ all → ∃ x : Nat, k = x ∧ x < l.length) : ∀ (rest : List Int) (i : Nat), all.drop i = rest →
    evLoop E (orc E) (225 : Nat) (rest.length + 1) (loopOf Tryz.f225 0) ⟨53, [(0, .sl 124 (l.map (sT 219))), (1, .ipt (cT c)), (7, iS all), (8, vI i)], [], 2⟩ =
    (if eqI (chooseM l c.vars rest) (-2) = true then some (.exit 0, ⟨53, [(0, .sl 124 (l.map (sT 219))), (1, .ipt (cT c)), (7, iS all), (8, vI (i + rest.length : Nat)), (18, vB false)], [], 2⟩)
     else some (.ret, ⟨53, [(6, vI (chooseM l c.vars rest))], [], 2⟩))
  | [], i, h => by
    have hge : all.length ≤ i := by simpa using h
    have hlt : ltI (i : Int) (all.length : Int) = false := ltI_f (by omega)
    rw [loop_eq]
    simp +contextual -dsimp [Tryz.f225, hlt, chooseM, eqI_self]
  | k :: rest, i, h => by
    obtain ⟨hi, hc, hr⟩ := drop_cons h
    obtain ⟨x, hx, hxl⟩ := hks k (by rw [← hc]; exact List.getElem_mem _)
    have hlt := ltN_t hi
    have hw := wrap1 hi (by omega)
    have he : i + 1 + rest.length = i + (rest.length + 1) := by omega
    have ec : (l[x]).cond = condOf l x := by simp [condOf, hxl]
    have hm : chooseM l c.vars (k :: rest) = (if ltI 0 (condOf l x).length = true then pickV (evalM (condOf l x) c.vars) k (chooseM l c.vars rest) else k) := by
      conv => lhs; unfold chooseM
      rw [hx, Int.toNat_natCast]
    have hx2 : eqI (x : Int) (-2) = false := by simp only [eqI, beq_eq_false_iff_ne]; omega
    cases q : ltI 0 (condOf l x).length
    · have q0 : eqI (condOf l x).length 0 = true := by
        simp only [ltI, decide_eq_false_iff_not] at q
        simp only [eqI, beq_iff_eq]; omega
      rw [q, if_neg (by simp)] at hm
      rw [hm, hx, hx2, if_neg (by simp)]
      refine evLoop_out ?_ (by simp)
      rw [hx] at hc
      simp (maxSteps := 1000000) +contextual -dsimp [Tryz.f225, hlt, hi, hc, hxl, ec, q0]
    · have q0 : eqI (condOf l x).length 0 = false := by
        simp only [ltI, decide_eq_true_eq] at q
        simp only [eqI, beq_eq_false_iff_ne]; omega
      have g := f_l3Eval (condOf l x) (w.condOf hxl q) c.vars hv hr0
      rw [q, if_pos rfl] at hm
      cases ev : evalM (condOf l x) c.vars with
      | none =>
        rw [ev] at hm g
        simp only [RE] at g
        have hm : chooseM l c.vars (k :: rest) = -1 := hm
        have t1 : eqI (-1) (-2) = false := rfl
        rw [hm, t1, if_neg (by simp)]
        refine evLoop_out ?_ (by simp)
        rw [hx] at hc
        simp (maxSteps := 1000000) +contextual -dsimp [Tryz.f225, hlt, hi, hc, hxl, ec, q0, g]
      | some v =>
        rw [ev] at hm g
        simp only [RE] at g
        cases q1 : eqI v 1
        · have hm : chooseM l c.vars (k :: rest) = chooseM l c.vars rest := by simpa [q1, pickV] using hm
          rw [hm]
          have ih := lp225 w c hv hr0 all hall hks rest (i + 1) hr
          rw [he] at ih
          refine evLoop_next ?_ (by simpa only [List.length_cons] using ih)
          rw [hx] at hc
          simp (maxSteps := 1000000) +contextual -dsimp [Tryz.f225, hlt, hi, hc, hw, hxl, ec, q0, g, q1]
        · have hm : chooseM l c.vars (k :: rest) = x := by simpa [q1, pickV, hx] using hm
          rw [hm, hx2, if_neg (by simp)]
          refine evLoop_out ?_ (by simp)
          rw [hx] at hc
          simp (maxSteps := 1000000) +contextual -dsimp [Tryz.f225, hlt, hi, hc, hxl, ec, q0, g, q1]
theorem f_l9Choose {l:List Step} (w:Wf l) (c:Chart) (hv:c.vars.length=4) (hr0:∀ x,x∈c.vars→badV x=false) (k:Nat):
  fo 225 [A (.sl 124 (l.map (sT 219))),A (.ipt (cT c)),A (vI k)]=some (R (vI (choose4 (chooseM l c.vars (kidsM k 0 l))))):=by
 have h24:=w.kids24 k
 have gk:=f_l4Kids l (by have:=w.ok.le; omega) k
 rw [← proc_kids w.ok] at gk
 generalize hks:kidsM k 0 l=ks at *
 have hlp:=lp225 w c hv hr0 ks h24 (fun x hx=>by
  rw [← hks] at hx
  obtain ⟨a,h1,h2,_⟩:=w.kid hx
  exact ⟨a,h1,h2⟩) ks 0 rfl
 refine orc_225 (ks.length+1) ?_
 simp -dsimp [Tryz.f225] at hlp
 unfold choose4
 cases q:eqI (chooseM l c.vars ks) (-2)
 ·rw [q] at hlp
  simp (maxSteps:=1000000) +contextual -dsimp [Tryz.f225,gk,hlp]
 ·rw [q] at hlp
  simp (maxSteps:=1000000) +contextual -dsimp [Tryz.f225,gk,hlp]
theorem lp230 (c:Chart) (all:List Int) (hall:all.length≤24) (hks:∀ k,k∈all→∃ x:Nat,k=x∧x < c.acts.length):∀ (rest:List Int) (i:Nat),all.drop i=rest→
  evLoop E (orc E) (230:Nat) (rest.length+1) (loopOf Tryz.f230 0) ⟨29,[(1,.ipt (cT c)),(7,iS all),(8,vI i)],[],2⟩=
  (if hasB (notOver c.acts) rest=true then some (.ret,⟨29,[(6,vB false)],[],2⟩) else some (.exit 0,⟨29,[(1,.ipt (cT c)),(7,iS all),(8,vI (i+rest.length:Nat)),(15,vB false)],[],2⟩))
 | [],i,h=>by
  have hge:all.length≤i:=by simpa using h
  have hlt:ltI (i:Int) (all.length:Int)=false:=ltI_f (by omega)
  have h0:hasB (notOver c.acts) []=false:=rfl
  rw [loop_eq]
  simp +contextual -dsimp [Tryz.f230,hlt,h0]
 | k::rest,i,h=>by
  obtain ⟨hi,hc,hr⟩:=drop_cons h
  obtain ⟨x,hx,hxl⟩:=hks k (by rw [← hc]; exact List.getElem_mem _)
  have hlt:=ltN_t hi
  have hw:=wrap1 hi (by omega)
  have he:i+1+rest.length=i+(rest.length+1):=by omega
  have hs:=szAt_lt hxl
  have e:notOver c.acts k=notB (eqI c.acts[x] 2):=by unfold notOver; rw [hx,hs]
  rw [hx] at hc
  cases q:eqI c.acts[x] 2
  ·have hm:hasB (notOver c.acts) (k::rest)=true:=by rw [hasB_any]; simp [e,q,notB]
   rw [hm,if_pos rfl]
   refine evLoop_out ?_ (by simp)
   simp (maxSteps:=1000000) +contextual -dsimp [Tryz.f230,hlt,hi,hc,hxl,q]
  ·have hm:hasB (notOver c.acts) (k::rest)=hasB (notOver c.acts) rest:=by rw [hasB_any,hasB_any]; simp [e,q,notB]
   rw [hm]
   have ih:=lp230 c all hall hks rest (i+1) hr
   rw [he] at ih
   refine evLoop_next ?_ (by simpa only [List.length_cons] using ih)
   simp (maxSteps:=1000000) +contextual -dsimp [Tryz.f230,hlt,hi,hc,hxl,hw,q]
theorem f_l9All {l:List Step} (w:Wf l) (c:Chart) (ha:c.acts.length=l.length) (k:Nat):
  fo 230 [A (.sl 124 (l.map (sT 219))),A (.ipt (cT c)),A (vI k)]=some (R (vB (notB (hasB (notOver c.acts) (kidsM k 0 l))))):=by
 have h24:=w.kids24 k
 have gk:=f_l4Kids l (by have:=w.ok.le; omega) k
 rw [← proc_kids w.ok] at gk
 generalize hks:kidsM k 0 l=ks at *
 have hlp:=lp230 c ks h24 (fun x hx=>by
  rw [← hks] at hx
  obtain ⟨a,h1,h2,_⟩:=w.kid hx
  exact ⟨a,h1,by omega⟩) ks 0 rfl
 refine orc_230 (ks.length+1) ?_
 simp -dsimp [Tryz.f230] at hlp
 cases q:hasB (notOver c.acts) ks
 ·rw [q] at hlp
  simp (maxSteps:=1000000) +contextual -dsimp [Tryz.f230,gk,hlp]
 ·rw [q] at hlp
  simp (maxSteps:=1000000) +contextual -dsimp [Tryz.f230,gk,hlp]
def aftI (v:Int):List Int→Int
 | x::y::r=>if eqI x v=true then y else aftI v (y::r)
 | _=>-1
theorem aft_idx {v:Int}:∀ {l:List Int},v∈l→aftI v l=if ltI (idxI v l+1) l.length=true then szAt l (idxI v l+1) else -1
 | [],h=>by simp at h
 | [x],h=>by
  have:x=v:=by simpa [eq_comm] using h
  subst this
  simp [aftI,idxI,idxM,eqI_self,ltI]
 | x::y::r,h=>by
  unfold aftI
  cases q:eqI x v
  ·have hne:x≠v:=by simpa [eqI] using q
   have hm:v∈y::r:=by
    rcases List.mem_cons.1 h with h | h
    ·exact absurd h.symm hne
    ·exact h
   have ih:=aft_idx hm
   obtain ⟨j,h1,h2,h3⟩:=idxI_found hm
   have e:idxI v (x::y::r)=idxI v (y::r)+1:=by
    have q':eqI v x=false:=by simp only [eqI,beq_eq_false_iff_ne]; exact fun h=>hne h.symm
    have sh:∀ (l:List Int) (i:Nat),(∃ j:Nat,idxM (fun x=>eqI v x) i l=j)→idxM (fun x=>eqI v x) (i+1) l=idxM (fun x=>eqI v x) i l+1:=by
     intro l
     induction l with
     | nil=>intro i ⟨j,h⟩; simp only [idxM] at h; omega
     | cons z l ih=>
      intro i ⟨j,h⟩
      unfold idxM at h ⊢
      split
      ·rename_i c; simp
      ·rename_i c; rw [if_neg c] at h; exact ih (i+1) ⟨j,h⟩
    have:idxI v (x::y::r)=idxM (fun x=>eqI v x) 1 (y::r):=by
     unfold idxI; conv=>lhs; unfold idxM
     rw [q',if_neg (by simp)]
    rw [this]
    exact sh (y::r) 0 ⟨j,h1⟩
   simp only [Bool.false_eq_true,if_false]
   rw [ih,e,h1]
   have e1:((j:Int)+1+1)=((j+2:Nat):Int):=by omega
   have e2:((j:Int)+1)=((j+1:Nat):Int):=by omega
   rw [e1,e2]
   by_cases hj:j+1 < (y::r).length
   ·rw [if_pos (by simp [ltI]; simp at hj; omega),if_pos (by simp [ltI]; simp at hj; omega),szAt_lt hj,szAt_lt (by simp at hj ⊢; omega)]
    rfl
   ·rw [if_neg (by simp [ltI]; simp at hj; omega),if_neg (by simp [ltI]; simp at hj; omega)]
  ·have:x=v:=by simpa [eqI] using q
   subst this
   have e:idxI x (x::y::r)=0:=by simp [idxI,idxM,eqI_self]
   rw [e,if_pos rfl,if_pos (by simp only [ltI,List.length_cons,decide_eq_true_eq]; omega)]
   rfl
theorem lp229 (v:Int) (all:List Int) (hall:all.length≤24) (hp:∀ x,x∈all→0≤x):∀ (rest:List Int) (i:Nat),all.drop i=rest→rest≠[]→
  ∃ n:Nat,evLoop E (orc E) (229:Nat) (rest.length+1) (loopOf Tryz.f229 0) ⟨32,[(1,vI v),(5,iS all),(6,vI i)],[],2⟩=
  (if eqI (aftI v rest) (-1)=true then some (.exit 0,⟨32,[(1,vI v),(5,iS all),(6,vI n),(18,vB false)],[],2⟩) else some (.ret,⟨32,[(4,vI (aftI v rest))],[],2⟩))
 | [],i,h,hn=>absurd rfl hn
 | [x],i,h,hn=>by
  obtain ⟨hi,hc,hr⟩:=drop_cons h
  have hge:all.length≤i+1:=by simpa using hr
  have hw:=wrap1 hi (by omega)
  have hlt:ltI ((i+1:Nat):Int) (all.length:Int)=false:=ltI_f (by omega)
  refine ⟨i,?_⟩
  have e1:eqI (aftI v [x]) (-1)=true:=rfl
  rw [e1,if_pos rfl]
  refine evLoop_out ?_ (by simp)
  generalize i+1=i1 at *
  simp (maxSteps:=1000000) +contextual -dsimp [Tryz.f229,hw,hlt]
 | x::y::r,i,h,hn=>by
  obtain ⟨hi,hc,hr⟩:=drop_cons h
  obtain ⟨hi2,hc2,hr2⟩:=drop_cons hr
  have hw:=wrap1 hi (by omega)
  have hlt:=ltN_t hi2
  have hx:0≤x:=hp x (by rw [← hc]; exact List.getElem_mem _)
  have hy:0≤y:=hp y (by rw [← hc2]; exact List.getElem_mem _)
  cases q:eqI x v
  ·have hm:aftI v (x::y::r)=aftI v (y::r):=by
    conv=>lhs; unfold aftI
    rw [if_neg (by rw [q]; simp)]
   rw [hm]
   obtain ⟨n,ih⟩:=lp229 v all hall hp (y::r) (i+1) hr (by simp)
   refine ⟨n,?_⟩
   have he:(x::y::r).length=(y::r).length+1:=rfl
   rw [he]
   refine evLoop_next ?_ ih
   generalize i+1=i1 at *
   simp (maxSteps:=1000000) +contextual -dsimp [Tryz.f229,hw,hlt,hi,hc,q]
  ·have hm:aftI v (x::y::r)=y:=by
    conv=>lhs; unfold aftI
    rw [if_pos q]
   have hn1:eqI y (-1)=false:=by simp [eqI]; omega
   refine ⟨0,?_⟩
   rw [hm,hn1,if_neg (by simp)]
   refine evLoop_out ?_ (by simp)
   generalize i+1=i1 at *
   simp (maxSteps:=1000000) +contextual -dsimp [Tryz.f229,hw,hlt,hi,hi2,hc,hc2,q]
theorem f_l9After {l:List Step} (w:Wf l) (k p:Nat) (hk:k < l.length) (hp:parOf l k=p):
  fo 229 [A (.sl 124 (l.map (sT 219))),A (vI k)]=some (R (vI (aftI k (kidsM p 0 l)))):=by
 have h24:=w.kids24 p
 have gk:=f_l4Kids l (by have:=w.ok.le; omega) p
 rw [← proc_kids w.ok] at gk
 have hmem:=w.kid_of hk hp
 have hp':(l[k]).parent=(p:Int):=by rw [← parOf_at hk]; exact hp
 have hpos:∀ x,x∈kidsM p 0 l→0≤x:=fun x hx=>by obtain ⟨a,h1,_⟩:=w.kid hx; omega
 generalize hks:kidsM p 0 l=ks at *
 obtain ⟨n,hlp⟩:=lp229 k ks h24 hpos ks 0 rfl (fun h=>by rw [h] at hmem; simp at hmem)
 refine orc_229 (ks.length+1) ?_
 simp -dsimp [Tryz.f229] at hlp
 cases q:eqI (aftI k ks) (-1)
 ·rw [q] at hlp
  simp (maxSteps:=1000000) +contextual -dsimp [Tryz.f229,hk,hp',gk,hlp]
 ·rw [q] at hlp
  have e:aftI k ks=-1:=by simpa [eqI] using q
  simp (maxSteps:=1000000) +contextual -dsimp [Tryz.f229,hk,hp',gk,hlp,e]
end Go.TM.Ft
