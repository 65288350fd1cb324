/- What functions of the program come to, by the machine. -/
import Derived.Test.YtbpdikmponmmpaaDoorIL2
set_option linter.unusedSimpArgs false
set_option linter.unusedVariables false
set_option maxHeartbeats 8000000
namespace Go.TM.Dw
open Go Go.TM Go.Proofs
set_option maxRecDepth 20000
attribute [local congr] gif_cg
attribute [local simp] footOf noClash clash upsets setsHit setHits layHits layMeets setsMeet evFeet
abbrev frT (p:ByteArray×Int):List T:=[vS p.1,vI p.2]
def isF (w:ByteArray) (n:Int) (p:ByteArray×Int):Bool:=andB (eqS w p.1) (eqI n p.2)
theorem lp35 (w:ByteArray) (n:Int) (all:List (ByteArray×Int)) (hall:all.length≤1000):∀ (rest:List (ByteArray×Int)) (i:Nat),all.drop i=rest→i+rest.length=all.length→
  (rest.any (isF w n)=false∧evLoop E (orc E) (35:Nat) (rest.length+1) (loopOf Tryd.f35 0) ⟨19,[(0,.sl 52 (all.map frT)),(3,.ptr 3 1 [] 0),(7,vI all.length),(8,vI i)],[(3,⟨1,1,true,[vS w,vI n]⟩)],2⟩=
   some (.exit 0,⟨19,[(0,.sl 52 (all.map frT)),(3,.ptr 3 1 [] 0),(7,vI all.length),(8,vI all.length),(9,vB false)],[(3,⟨1,1,true,[vS w,vI n]⟩)],2⟩))∨
  (rest.any (isF w n)=true∧∃ j:Nat,evLoop E (orc E) (35:Nat) (rest.length+1) (loopOf Tryd.f35 0) ⟨19,[(0,.sl 52 (all.map frT)),(3,.ptr 3 1 [] 0),(7,vI all.length),(8,vI i)],[(3,⟨1,1,true,[vS w,vI n]⟩)],2⟩=
   some (.ret,⟨19,[(4,vI j)],[],2⟩))
 | [],i,h,hl=>by
  simp only[List.length_nil,Nat.add_zero] at hl
  subst hl
  have hlt:ltI (all.length:Int) (all.length:Int)=false:=ltI_f (by omega)
  refine .inl ⟨rfl,?_⟩
  rw[loop_eq]
  simp +contextual -dsimp [Tryd.f35,hlt]
 | c::rest,i,h,hl=>by
  obtain⟨hi,hc,hr⟩:=drop_cons h
  simp only[List.length_cons] at hl
  obtain⟨j,ej⟩:∃ j,j=i+1:=⟨_,rfl⟩
  have hlt:ltI (i:Int) (all.length:Int)=true:=ltI_t (by omega)
  have hw:IntKind.i64.wrap ((i:Int)+1)=(j:Int):=by rw[wrapI]<;>omega
  have g:=fun x y=>pr_eqlF x y w c.1 n c.2
  rw[←ej] at hr
  simp only[List.any_cons]
  cases q:isF w n c with
  | true=>
   unfold isF at q
   rw[q] at g
   refine .inr ⟨rfl,i,evLoop_out ?_ (by simp)⟩
   simp (maxSteps:=1000000) +contextual -dsimp [Tryd.f35,hlt,hi,hc,hw,g,List.set]
  | false=>
   unfold isF at q
   rw[q] at g
   have step:∀ {r},evLoop E (orc E) (35:Nat) (rest.length+1) (loopOf Tryd.f35 0) ⟨19,[(0,.sl 52 (all.map frT)),(3,.ptr 3 1 [] 0),(7,vI all.length),(8,vI j)],[(3,⟨1,1,true,[vS w,vI n]⟩)],2⟩=r→
     evLoop E (orc E) (35:Nat) (rest.length+1+1) (loopOf Tryd.f35 0) ⟨19,[(0,.sl 52 (all.map frT)),(3,.ptr 3 1 [] 0),(7,vI all.length),(8,vI i)],[(3,⟨1,1,true,[vS w,vI n]⟩)],2⟩=r:=fun ih=>by
    refine evLoop_next ?_ ih
    simp (maxSteps:=1000000) +contextual -dsimp [Tryd.f35,hlt,hi,hc,hw,g,List.set]
   rcases lp35 w n all hall rest j hr (by omega) with⟨e,ih⟩ | ⟨e,k,ih⟩
   ·exact .inl ⟨by rw[e];rfl,step ih⟩
   ·exact .inr ⟨by rw[e];rfl,k,step ih⟩
theorem f_35 (w:ByteArray) (n:Int) (all:List (ByteArray×Int)) (hall:all.length≤1000):∃ x,fo 35 [A (.sl 52 (all.map frT)),A (.agg [vS w,vI n])]=some (R (vI x))∧leI 0 x=all.any (isF w n):=by
 rcases lp35 w n all hall all 0 rfl (by omega) with⟨e,hlp⟩ | ⟨e,k,hlp⟩
 ·refine⟨-1,?_,by rw[e];rfl⟩
  simp -dsimp [Tryd.f35] at hlp
  refine orc_35 (all.length+1) ?_
  simp (maxSteps:=1000000) +contextual -dsimp [Tryd.f35,hlp,List.set]
 ·refine⟨k,?_,by rw[e];exact leI_t (by omega)⟩
  simp -dsimp [Tryd.f35] at hlp
  refine orc_35 (all.length+1) ?_
  simp (maxSteps:=1000000) +contextual -dsimp [Tryd.f35,hlp,List.set]
theorem f_30 (w:ByteArray) (n:Int) (all:List (ByteArray×Int)) (hall:all.length≤1000):fo 30 [A (.sl 52 (all.map frT)),A (.agg [vS w,vI n])]=some (R (vB (all.any (isF w n)))):=by
 obtain⟨x,g,e⟩:=f_35 w n all hall
 refine orc_30 1 ?_
 simp (maxSteps:=1000000) +contextual -dsimp [Tryd.f30,g,e,List.set]
def formsL:List (ByteArray×Int):=[(sStart,2),(sMail,2),(sTick,1),(sDrop,1),(sClaim,3),(sFree,3),(sDone,4)]
theorem forms_eq:(theForms.map (·.map T.v))=formsL.map frT:=rfl
theorem ext_31 (s:ByteArray) (hs:s.size≤1048576):fo 31 [A (vS s),A (vI 4)]=some (R (.tup [vI (numV s),vB (numB s 4)])):=by
 refine orc_ext (g:=numT) rfl ?_
 unfold numT
 simp only[hs,if_true]
theorem lp24 (w0:List (List T)) (all:List ByteArray) (hall:all.length≤2097152) (hsz:∀ s,s∈all→s.size≤1048576):∀ (rest:List ByteArray) (i:Nat) (out:List Nat),all.drop i=rest→out.length≤i→i+rest.length=all.length→
  (∃ ns,nums rest=some ns∧evLoop E (orc E) (24:Nat) (rest.length+1) (loopOf Tryd.f24 0) ⟨52,[(5,.sl 9 w0),(6,.ref 6 1 [] 0 out.length),(30,.sl 9 (all.map wT)),(31,vI all.length),(32,vI i)],[(6,⟨1,1,false,[.own 2 (out.map nV)]⟩)],2⟩=
   some (.exit 0,⟨52,[(5,.sl 9 w0),(6,.ref 6 1 [] 0 (out++ns).length),(30,.sl 9 (all.map wT)),(31,vI all.length),(32,vI all.length),(33,vB false)],[(6,⟨1,1,false,[.own 2 ((out++ns).map nV)]⟩)],2⟩))∨
  (nums rest=none∧∃ o2:List Nat,evLoop E (orc E) (24:Nat) (rest.length+1) (loopOf Tryd.f24 0) ⟨52,[(5,.sl 9 w0),(6,.ref 6 1 [] 0 out.length),(30,.sl 9 (all.map wT)),(31,vI all.length),(32,vI i)],[(6,⟨1,1,false,[.own 2 (out.map nV)]⟩)],2⟩=
   some (.ret,⟨52,[(2,vS ⟨#[]⟩),(3,.v (.slice none 0 0)),(4,vB false)],[(6,⟨1,1,false,[.own 2 (o2.map nV)]⟩)],2⟩))
 | [],i,out,h,ho,hl=>by
  simp only[List.length_nil,Nat.add_zero] at hl
  subst hl
  have hlt:ltI (all.length:Int) (all.length:Int)=false:=ltI_f (by omega)
  refine .inl ⟨[],rfl,?_⟩
  rw[loop_eq]
  simp +contextual -dsimp [Tryd.f24,hlt]
 | c::rest,i,out,h,ho,hl=>by
  obtain⟨hi,hc,hr⟩:=drop_cons h
  simp only[List.length_cons] at hl
  obtain⟨j,ej⟩:∃ j,j=i+1:=⟨_,rfl⟩
  have hlt:ltI (i:Int) (all.length:Int)=true:=ltI_t (by omega)
  have hw:IntKind.i64.wrap ((i:Int)+1)=(j:Int):=by rw[wrapI]<;>omega
  have g:=ext_31 c (hsz c (by rw[←hc];exact List.getElem_mem hi))
  have hm:out.length+1≤maxElems:=by unfold maxElems;omega
  rw[←ej] at hr
  simp only[nums]
  cases q:num4 c.data.toList with
  | none=>
   rw[num_none q] at g
   refine .inr ⟨rfl,out,evLoop_out ?_ (by simp)⟩
   simp (maxSteps:=1000000) +contextual -dsimp [Tryd.f24,hlt,hi,hc,hw,g,List.set]
  | some n=>
   obtain⟨q1,q2⟩:=num_some q
   rw[q1,q2] at g
   have step:∀ {r},evLoop E (orc E) (24:Nat) (rest.length+1) (loopOf Tryd.f24 0) ⟨52,[(5,.sl 9 w0),(6,.ref 6 1 [] 0 (out++[n]).length),(30,.sl 9 (all.map wT)),(31,vI all.length),(32,vI j)],[(6,⟨1,1,false,[.own 2 ((out++[n]).map nV)]⟩)],2⟩=r→
     evLoop E (orc E) (24:Nat) (rest.length+1+1) (loopOf Tryd.f24 0) ⟨52,[(5,.sl 9 w0),(6,.ref 6 1 [] 0 out.length),(30,.sl 9 (all.map wT)),(31,vI all.length),(32,vI i)],[(6,⟨1,1,false,[.own 2 (out.map nV)]⟩)],2⟩=r:=fun ih=>by
    refine evLoop_next ?_ ih
    simp (maxSteps:=1000000) +contextual -dsimp [Tryd.f24,hlt,hi,hc,hw,g,hm,List.set]
   rcases lp24 w0 all hall hsz rest j (out++[n]) hr (by simp;omega) (by omega) with⟨ns,e,ih⟩ | ⟨e,o2,ih⟩
   ·refine .inl ⟨n::ns,by rw[e],?_⟩
    rw[List.append_assoc] at ih
    exact step ih
   ·exact .inr ⟨by rw[e],o2,step ih⟩
abbrev cmdBad:Res:=R (.tup [vS ⟨#[]⟩,.own 2 [],vB false])
def isForm (w:ByteArray) (n:Int):Bool:=formsL.any (isF w n)
def cmdR (l:List ByteArray):Res:=match l with
 | []=>cmdBad
 | w::r=>if isForm w r.length=true then (match nums r with | some ns=>R (.tup [vS w,.own 2 (ns.map nV),vB true]) | none=>cmdBad) else cmdBad
theorem f_command (s:ByteArray) (hs:s.size≤1048576):fo 24 [A (vS s)]=some (cmdR (wds s)):=by
 have g1:=f_wordsOf s hs
 have hl:=wds_len s
 have hsz:∀ x,x∈wds s→x.size≤1048576:=fun x hx=>Nat.le_trans (wds_size s x hx) hs
 generalize wds s=l at *
 have hseal:=osealed_W l
 cases l with
 | nil=>
  have q0:eqI 0 0=true:=rfl
  refine orc_24 1 ?_
  simp (maxSteps:=1000000) +contextual -dsimp [Tryd.f24,g1,cmdR,q0,List.set]
 | cons w r=>
  simp only[List.length_cons] at hl
  have q0:eqI ((r.length:Int)+1) 0=false:=eqI_f (by omega)
  have hs2:=osealed_W r
  have k1:(1:Int)≤(r.length:Int)+1:=by omega
  have k2:((r.length:Int)+1).toNat - 1=r.length:=by omega
  have k3:(r.map wT).take r.length=r.map wT:=List.take_of_length_le (by simp)
  have kw:IntKind.i64.wrap (r.length:Int)=(r.length:Int):=by rw[wrapI]<;>omega
  have g2:=f_30 w (r.length:Int) formsL (by decide)
  have ki:pureRun Tryd.prog (isArr 53 52 7)=some true:=by kernel_rfl
  rw[←forms_eq] at g2
  simp only[cmdR]
  unfold isForm
  have lp:=lp24 (wT w::r.map wT) r (by omega) (fun x hx=>hsz x (by simp[hx])) r 0 [] rfl (by simp) (by omega)
  clear hsz hl hseal
  generalize formsL.any (isF w (r.length:Int))=b at *
  simp only[theForms,List.map_cons,List.map_nil] at g2
  cases b with
  | false=>
   refine orc_24 1 ?_
   simp (maxSteps:=1000000) +contextual -dsimp [Tryd.f24,g1,g2,q0,hs2,k1,k2,k3,kw,ki,theArr,theForms,List.set]
  | true=>
   rcases lp with⟨ns,e,lp⟩ | ⟨e,o2,lp⟩
   ·rw[e]
    rw[List.nil_append] at lp
    have hc:=oclean_N ns
    simp -dsimp [Tryd.f24] at lp
    refine orc_24 (r.length+1) ?_
    simp (maxSteps:=1000000) +contextual -dsimp [Tryd.f24,g1,g2,q0,hs2,k1,k2,k3,kw,ki,theArr,theForms,lp,hc,List.set]
   ·rw[e]
    have hc:=oclean_N o2
    simp -dsimp [Tryd.f24] at lp
    refine orc_24 (r.length+1) ?_
    simp (maxSteps:=1000000) +contextual -dsimp [Tryd.f24,g1,g2,q0,hs2,k1,k2,k3,kw,ki,theArr,theForms,lp,hc,List.set]
theorem f_InstBad (s:ByteArray) (g:fo 24 [A (vS s)]=some cmdBad):fo 12 [A (vS s)]=some (R (.agg [vI 5,vI 0])):=by
 refine orc_12 1 ?_
 simp (maxSteps:=1000000) +contextual -dsimp [Tryd.f12,g,List.set]
theorem io_0 (s w:ByteArray) (a b:Nat) (g:fo 24 [A (vS s)]=some (R (.tup [vS w,.own 2 ([a,b].map nV),vB true]))) (hb:wb w true false false false false false false):fo 12 [A (vS s)]=some (R (.agg [vI 4,vI 0])):=by
 obtain⟨h1,h2,h3,h4,h5,h6,h7⟩:=hb
 simp only[sStart,sTick,sMail,sDrop,sClaim,sFree,sDone] at h1 h2 h3 h4 h5 h6 h7
 refine orc_12 1 ?_
 simp (maxSteps:=1000000) +contextual -dsimp [Tryd.f12,g,h1,h2,h3,h4,h5,h6,h7,List.set]
theorem io_1 (s w:ByteArray) (a:Nat) (g:fo 24 [A (vS s)]=some (R (.tup [vS w,.own 2 ([a].map nV),vB true]))) (hb:wb w false true false false false false false):fo 12 [A (vS s)]=some (R (.agg [vI 4,vI 0])):=by
 obtain⟨h1,h2,h3,h4,h5,h6,h7⟩:=hb
 simp only[sStart,sTick,sMail,sDrop,sClaim,sFree,sDone] at h1 h2 h3 h4 h5 h6 h7
 refine orc_12 1 ?_
 simp (maxSteps:=1000000) +contextual -dsimp [Tryd.f12,g,h1,h2,h3,h4,h5,h6,h7,List.set]
theorem io_2 (s w:ByteArray) (a b:Nat) (g:fo 24 [A (vS s)]=some (R (.tup [vS w,.own 2 ([a,b].map nV),vB true]))) (hb:wb w false false true false false false false):fo 12 [A (vS s)]=some (R (.agg [vI 0,vI (a:Int)])):=by
 obtain⟨h1,h2,h3,h4,h5,h6,h7⟩:=hb
 simp only[sStart,sTick,sMail,sDrop,sClaim,sFree,sDone] at h1 h2 h3 h4 h5 h6 h7
 refine orc_12 1 ?_
 simp (maxSteps:=1000000) +contextual -dsimp [Tryd.f12,g,h1,h2,h3,h4,h5,h6,h7,List.set]
theorem io_3 (s w:ByteArray) (a:Nat) (g:fo 24 [A (vS s)]=some (R (.tup [vS w,.own 2 ([a].map nV),vB true]))) (hb:wb w false false false true false false false):fo 12 [A (vS s)]=some (R (.agg [vI 0,vI (a:Int)])):=by
 obtain⟨h1,h2,h3,h4,h5,h6,h7⟩:=hb
 simp only[sStart,sTick,sMail,sDrop,sClaim,sFree,sDone] at h1 h2 h3 h4 h5 h6 h7
 refine orc_12 1 ?_
 simp (maxSteps:=1000000) +contextual -dsimp [Tryd.f12,g,h1,h2,h3,h4,h5,h6,h7,List.set]
theorem io_4 (s w:ByteArray) (a b c:Nat) (g:fo 24 [A (vS s)]=some (R (.tup [vS w,.own 2 ([a,b,c].map nV),vB true]))) (hb:wb w false false false false true false false):fo 12 [A (vS s)]=some (R (.agg [vI 0,vI (b:Int)])):=by
 obtain⟨h1,h2,h3,h4,h5,h6,h7⟩:=hb
 simp only[sStart,sTick,sMail,sDrop,sClaim,sFree,sDone] at h1 h2 h3 h4 h5 h6 h7
 refine orc_12 1 ?_
 simp (maxSteps:=1000000) +contextual -dsimp [Tryd.f12,g,h1,h2,h3,h4,h5,h6,h7,List.set]
theorem io_5 (s w:ByteArray) (a b c:Nat) (g:fo 24 [A (vS s)]=some (R (.tup [vS w,.own 2 ([a,b,c].map nV),vB true]))) (hb:wb w false false false false false true false):fo 12 [A (vS s)]=some (R (.agg [vI 0,vI (b:Int)])):=by
 obtain⟨h1,h2,h3,h4,h5,h6,h7⟩:=hb
 simp only[sStart,sTick,sMail,sDrop,sClaim,sFree,sDone] at h1 h2 h3 h4 h5 h6 h7
 refine orc_12 1 ?_
 simp (maxSteps:=1000000) +contextual -dsimp [Tryd.f12,g,h1,h2,h3,h4,h5,h6,h7,List.set]
theorem io_6 (s w:ByteArray) (a b c d:Nat) (g:fo 24 [A (vS s)]=some (R (.tup [vS w,.own 2 ([a,b,c,d].map nV),vB true]))) (hb:wb w false false false false false false true):fo 12 [A (vS s)]=some (R (.agg [vI 0,vI (b:Int)])):=by
 obtain⟨h1,h2,h3,h4,h5,h6,h7⟩:=hb
 simp only[sStart,sTick,sMail,sDrop,sClaim,sFree,sDone] at h1 h2 h3 h4 h5 h6 h7
 refine orc_12 1 ?_
 simp (maxSteps:=1000000) +contextual -dsimp [Tryd.f12,g,h1,h2,h3,h4,h5,h6,h7,List.set]
theorem nums_len:∀ (r:List ByteArray) (ns:List Nat),nums r=some ns→ns.length=r.length
 | [],ns,h=>by simp only[nums,Option.some.injEq] at h;subst h;rfl
 | s::r,ns,h=>by
  simp only[nums] at h
  split at h
  ·cases h
  ·split at h
   ·cases h
   ·rename_i _ n _ ms e
    simp only[Option.some.injEq] at h
    subst h
    simp[nums_len r ms e]
theorem f_InstOf (s:ByteArray) (hs:s.size≤1048576):fo 12 [A (vS s)]=some (R (.agg [vI (instM (wds s)).2,vI (instM (wds s)).1])):=by
 have g:=f_command s hs
 generalize wds s=l at *
 cases l with
 | nil=>exact f_InstBad s g
 | cons w r=>
  simp only[cmdR,instM] at g ⊢
  cases hn:nums r with
  | none=>
   rw[hn] at g
   simp only[ite_self] at g
   exact f_InstBad s g
  | some ns=>
   rw[hn] at g
   simp only at g ⊢
   have hl:=nums_len r ns hn
   rw[←hl] at g
   clear hn hl
   have eI:∀ n:Nat,eqI (ns.length:Int) n=decide (ns.length=n):=fun n=>by
    by_cases h:ns.length=n
    ·rw[eqI_t (by omega)];simp[h]
    ·rw[eqI_f (by omega)];simp[h]
   have e1:eqI (ns.length:Int) 1=decide (ns.length=1):=eI 1
   have e2:eqI (ns.length:Int) 2=decide (ns.length=2):=eI 2
   have e3:eqI (ns.length:Int) 3=decide (ns.length=3):=eI 3
   have e4:eqI (ns.length:Int) 4=decide (ns.length=4):=eI 4
   rcases wb_cases w with h | h | h | h | h | h | h | h
   ·have h':=h
    obtain⟨h1,h2,h3,h4,h5,h6,h7⟩:=h'
    simp only[isForm,formsL,isF,List.any_cons,List.any_nil,h1,h2,h3,h4,h5,h6,h7,andB,Bool.true_and,Bool.false_and,Bool.false_or,Bool.or_false,e1,e2,e3,e4,decide_eq_true_eq] at g
    unfold instW
    simp only[h1,h2,h3,h4,h5,h6,h7,true_and,false_and,Bool.false_eq_true,false_or,or_false]
    by_cases hq:ns.length=2
    ·rw[if_pos hq] at g
     have e:∃ a b,ns=[a,b]:=by
      match ns,hq with
      | [a,b],_=>exact⟨a,b,rfl⟩
     obtain⟨a,b,rfl⟩:=e
     exact io_0 s w a b g h
    ·rw[if_neg hq] at g
     simp only[hq,if_false]
     exact f_InstBad s g
   ·have h':=h
    obtain⟨h1,h2,h3,h4,h5,h6,h7⟩:=h'
    simp only[isForm,formsL,isF,List.any_cons,List.any_nil,h1,h2,h3,h4,h5,h6,h7,andB,Bool.true_and,Bool.false_and,Bool.false_or,Bool.or_false,e1,e2,e3,e4,decide_eq_true_eq] at g
    unfold instW
    simp only[h1,h2,h3,h4,h5,h6,h7,true_and,false_and,Bool.false_eq_true,false_or,or_false]
    by_cases hq:ns.length=1
    ·rw[if_pos hq] at g
     have e:∃ a,ns=[a]:=by
      match ns,hq with
      | [a],_=>exact⟨a,rfl⟩
     obtain⟨a,rfl⟩:=e
     exact io_1 s w a g h
    ·rw[if_neg hq] at g
     simp only[hq,if_false]
     exact f_InstBad s g
   ·have h':=h
    obtain⟨h1,h2,h3,h4,h5,h6,h7⟩:=h'
    simp only[isForm,formsL,isF,List.any_cons,List.any_nil,h1,h2,h3,h4,h5,h6,h7,andB,Bool.true_and,Bool.false_and,Bool.false_or,Bool.or_false,e1,e2,e3,e4,decide_eq_true_eq] at g
    unfold instW
    simp only[h1,h2,h3,h4,h5,h6,h7,true_and,false_and,Bool.false_eq_true,false_or,or_false]
    by_cases hq:ns.length=2
    ·rw[if_pos hq] at g
     have e:∃ a b,ns=[a,b]:=by
      match ns,hq with
      | [a,b],_=>exact⟨a,b,rfl⟩
     obtain⟨a,b,rfl⟩:=e
     exact io_2 s w a b g h
    ·rw[if_neg hq] at g
     simp only[hq,if_false]
     exact f_InstBad s g
   ·have h':=h
    obtain⟨h1,h2,h3,h4,h5,h6,h7⟩:=h'
    simp only[isForm,formsL,isF,List.any_cons,List.any_nil,h1,h2,h3,h4,h5,h6,h7,andB,Bool.true_and,Bool.false_and,Bool.false_or,Bool.or_false,e1,e2,e3,e4,decide_eq_true_eq] at g
    unfold instW
    simp only[h1,h2,h3,h4,h5,h6,h7,true_and,false_and,Bool.false_eq_true,false_or,or_false]
    by_cases hq:ns.length=1
    ·rw[if_pos hq] at g
     have e:∃ a,ns=[a]:=by
      match ns,hq with
      | [a],_=>exact⟨a,rfl⟩
     obtain⟨a,rfl⟩:=e
     exact io_3 s w a g h
    ·rw[if_neg hq] at g
     simp only[hq,if_false]
     exact f_InstBad s g
   ·have h':=h
    obtain⟨h1,h2,h3,h4,h5,h6,h7⟩:=h'
    simp only[isForm,formsL,isF,List.any_cons,List.any_nil,h1,h2,h3,h4,h5,h6,h7,andB,Bool.true_and,Bool.false_and,Bool.false_or,Bool.or_false,e1,e2,e3,e4,decide_eq_true_eq] at g
    unfold instW
    simp only[h1,h2,h3,h4,h5,h6,h7,true_and,false_and,Bool.false_eq_true,false_or,or_false]
    by_cases hq:ns.length=3
    ·rw[if_pos hq] at g
     have e:∃ a b c,ns=[a,b,c]:=by
      match ns,hq with
      | [a,b,c],_=>exact⟨a,b,c,rfl⟩
     obtain⟨a,b,c,rfl⟩:=e
     exact io_4 s w a b c g h
    ·rw[if_neg hq] at g
     simp only[hq,if_false]
     exact f_InstBad s g
   ·have h':=h
    obtain⟨h1,h2,h3,h4,h5,h6,h7⟩:=h'
    simp only[isForm,formsL,isF,List.any_cons,List.any_nil,h1,h2,h3,h4,h5,h6,h7,andB,Bool.true_and,Bool.false_and,Bool.false_or,Bool.or_false,e1,e2,e3,e4,decide_eq_true_eq] at g
    unfold instW
    simp only[h1,h2,h3,h4,h5,h6,h7,true_and,false_and,Bool.false_eq_true,false_or,or_false]
    by_cases hq:ns.length=3
    ·rw[if_pos hq] at g
     have e:∃ a b c,ns=[a,b,c]:=by
      match ns,hq with
      | [a,b,c],_=>exact⟨a,b,c,rfl⟩
     obtain⟨a,b,c,rfl⟩:=e
     exact io_5 s w a b c g h
    ·rw[if_neg hq] at g
     simp only[hq,if_false]
     exact f_InstBad s g
   ·have h':=h
    obtain⟨h1,h2,h3,h4,h5,h6,h7⟩:=h'
    simp only[isForm,formsL,isF,List.any_cons,List.any_nil,h1,h2,h3,h4,h5,h6,h7,andB,Bool.true_and,Bool.false_and,Bool.false_or,Bool.or_false,e1,e2,e3,e4,decide_eq_true_eq] at g
    unfold instW
    simp only[h1,h2,h3,h4,h5,h6,h7,true_and,false_and,Bool.false_eq_true,false_or,or_false]
    by_cases hq:ns.length=4
    ·rw[if_pos hq] at g
     have e:∃ a b c d,ns=[a,b,c,d]:=by
      match ns,hq with
      | [a,b,c,d],_=>exact⟨a,b,c,d,rfl⟩
     obtain⟨a,b,c,d,rfl⟩:=e
     exact io_6 s w a b c d g h
    ·rw[if_neg hq] at g
     simp only[hq,if_false]
     exact f_InstBad s g
   ·have h':=h
    obtain⟨h1,h2,h3,h4,h5,h6,h7⟩:=h'
    simp only[isForm,formsL,isF,List.any_cons,List.any_nil,h1,h2,h3,h4,h5,h6,h7,andB,Bool.true_and,Bool.false_and,Bool.false_or,Bool.or_false,e1,e2,e3,e4,decide_eq_true_eq] at g
    unfold instW
    simp only[h1,h2,h3,h4,h5,h6,h7,true_and,false_and,Bool.false_eq_true,false_or,or_false]
    simp only[if_false] at g ⊢
    exact f_InstBad s g
theorem f_InstOfS (s:ByteArray) (hs:s.size≤1048576):fo 11 [A (vS s)]=some (R (.agg [vI (instM (wds s)).2,vI (instM (wds s)).1])):=by
 have g:=f_l15I s hs
 generalize instM (wds s)=q at *
 refine orc_11 1 ?_
 simp (maxSteps:=1000000) +contextual -dsimp [Tryd.f11,g,List.set]
theorem f_eqIR (a b:Int):fo 13 [A (.agg [vI a,vI b]),A (.agg [vI a,vI b])]=some (R (vB true)):=by
 refine orc_13 1 ?_
 simp (maxSteps:=1000000) +contextual -dsimp [Tryd.f13,eqI_self,List.set]
theorem f_LawI (s:ByteArray):fo 4 [A (vS s)]=some (R (vB true)):=by
 cases c0:ltI 1048576 (s.size:Int)
 rotate_left
 ·refine orc_4 1 ?_
  simp (maxSteps:=1000000) +contextual -dsimp [Tryd.f4,c0,List.set]
 have hs:s.size≤1048576:=by
  rcases Nat.lt_or_ge 1048576 s.size with h | h
  ·rw[ltI_t (by omega)] at c0;simp at c0
  ·exact h
 have g1:=f_InstOf s hs
 have g2:=f_InstOfS s hs
 generalize (instM (wds s)).1=q1 at *
 generalize (instM (wds s)).2=q2 at *
 have g3:=f_eqIR q2 q1
 refine orc_4 1 ?_
 simp (maxSteps:=1000000) +contextual -dsimp [Tryd.f4,c0,g1,g2,g3,List.set]
end Go.TM.Dw
