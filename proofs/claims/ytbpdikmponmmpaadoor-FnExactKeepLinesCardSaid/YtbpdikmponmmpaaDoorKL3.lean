/- What functions of the program come to, by the machine. -/
import Derived.Test.YtbpdikmponmmpaaDoorKL2
import Derived.Laws.StructEq
set_option linter.unusedSimpArgs false
set_option linter.unusedVariables false
set_option maxHeartbeats 8000000
namespace Go.TM.Dw
open Go Go.TM Go.Proofs
set_option maxRecDepth 20000
attribute [local congr] gif_cg
attribute [local simp] footOf noClash clash upsets setsHit setHits layHits layMeets setsMeet evFeet
def sStart:ByteArray:=⟨#[115,116,97,114,116]⟩
def sTick:ByteArray:=⟨#[116,105,99,107]⟩
def sMail:ByteArray:=⟨#[109,97,105,108]⟩
def sDrop:ByteArray:=⟨#[100,114,111,112]⟩
def sClaim:ByteArray:=⟨#[99,108,97,105,109]⟩
def sFree:ByteArray:=⟨#[102,114,101,101]⟩
def sDone:ByteArray:=⟨#[100,111,110,101]⟩
def instW (w:ByteArray) (ns:List Nat):Int×Int:=
 if (eqS w sStart=true∧ns.length=2)∨(eqS w sTick=true∧ns.length=1) then (0,4)
 else if (eqS w sMail=true∧ns.length=2)∨(eqS w sDrop=true∧ns.length=1) then ((ns.getD 0 0:Nat),0)
 else if ((eqS w sClaim=true∨eqS w sFree=true)∧ns.length=3)∨(eqS w sDone=true∧ns.length=4) then ((ns.getD 1 0:Nat),0)
 else (0,5)
def instM (l:List ByteArray):Int×Int:=match l with
 | []=>(0,5)
 | w::r=>match nums r with
  | none=>(0,5)
  | some ns=>instW w ns
theorem spl_size:∀ (l:List UInt8) (p:List UInt8),p∈spl l→p.length≤l.length
 | [],p,h=>by simp only[spl,List.mem_singleton] at h;subst h;simp
 | c::r,p,h=>by
  unfold spl at h
  split at h
  ·simp only[List.mem_cons] at h
   rcases h with rfl | h
   ·simp
   ·have:=spl_size r p h
    simp only[List.length_cons];omega
  ·split at h
   ·rename_i x t e
    simp only[List.mem_cons] at h
    rcases h with rfl | h
    ·have:=spl_size r x (by rw[e];simp)
     simp only[List.length_cons];omega
    ·have:=spl_size r p (by rw[e];simp[h])
     simp only[List.length_cons];omega
   ·simp only[List.mem_singleton] at h
    subst h;simp
theorem wds_size (s:ByteArray) (x:ByteArray) (h:x∈wds s):x.size≤s.size:=by
 unfold wds wdl at h
 obtain⟨p,hp,rfl⟩:=List.mem_map.1 h
 have h1:=spl_size _ p (List.mem_filter.1 hp).1
 have h2:s.data.toList.length=s.size:=by simp
 show p.toArray.size≤s.size
 simp only[List.size_toArray]
 omega
theorem osealed_N (l:List Nat):sealEs (l.map nV)=l.map nV:=sealEs_map (f:=nV) (g:=nV) (fun a=>by simp[sealL,seal_]) l
theorem eqS_ne {a b:ByteArray} (h:a≠b):eqS a b=false:=by
 unfold eqS
 rw[Lib.toList_data,Lib.toList_data]
 simp only[beq_eq_false_iff_ne,ne_eq]
 intro e
 apply h
 rw[←ofL_toList a,←ofL_toList b,e]
def wb (w:ByteArray) (b1 b2 b3 b4 b5 b6 b7:Bool):Prop:=eqS w sStart=b1∧eqS w sTick=b2∧eqS w sMail=b3∧eqS w sDrop=b4∧eqS w sClaim=b5∧eqS w sFree=b6∧eqS w sDone=b7
theorem wb_cases (w:ByteArray):wb w true false false false false false false∨wb w false true false false false false false∨wb w false false true false false false false∨wb w false false false true false false false∨wb w false false false false true false false∨wb w false false false false false true false∨wb w false false false false false false true∨wb w false false false false false false false:=by
 unfold wb
 by_cases e1:w=sStart
 ·subst e1;exact .inl ⟨eqS_self _,eqS_ne (by decide),eqS_ne (by decide),eqS_ne (by decide),eqS_ne (by decide),eqS_ne (by decide),eqS_ne (by decide)⟩
 by_cases e2:w=sTick
 ·subst e2;exact .inr (.inl ⟨eqS_ne (by decide),eqS_self _,eqS_ne (by decide),eqS_ne (by decide),eqS_ne (by decide),eqS_ne (by decide),eqS_ne (by decide)⟩)
 by_cases e3:w=sMail
 ·subst e3;exact .inr (.inr (.inl ⟨eqS_ne (by decide),eqS_ne (by decide),eqS_self _,eqS_ne (by decide),eqS_ne (by decide),eqS_ne (by decide),eqS_ne (by decide)⟩))
 by_cases e4:w=sDrop
 ·subst e4;exact .inr (.inr (.inr (.inl ⟨eqS_ne (by decide),eqS_ne (by decide),eqS_ne (by decide),eqS_self _,eqS_ne (by decide),eqS_ne (by decide),eqS_ne (by decide)⟩)))
 by_cases e5:w=sClaim
 ·subst e5;exact .inr (.inr (.inr (.inr (.inl ⟨eqS_ne (by decide),eqS_ne (by decide),eqS_ne (by decide),eqS_ne (by decide),eqS_self _,eqS_ne (by decide),eqS_ne (by decide)⟩))))
 by_cases e6:w=sFree
 ·subst e6;exact .inr (.inr (.inr (.inr (.inr (.inl ⟨eqS_ne (by decide),eqS_ne (by decide),eqS_ne (by decide),eqS_ne (by decide),eqS_ne (by decide),eqS_self _,eqS_ne (by decide)⟩)))))
 by_cases e7:w=sDone
 ·subst e7;exact .inr (.inr (.inr (.inr (.inr (.inr (.inl ⟨eqS_ne (by decide),eqS_ne (by decide),eqS_ne (by decide),eqS_ne (by decide),eqS_ne (by decide),eqS_ne (by decide),eqS_self _⟩))))))
 exact .inr (.inr (.inr (.inr (.inr (.inr (.inr ⟨eqS_ne e1,eqS_ne e2,eqS_ne e3,eqS_ne e4,eqS_ne e5,eqS_ne e6,eqS_ne e7⟩))))))
theorem li_0 (s w:ByteArray) (r:List ByteArray) (ns:List Nat) (g1:fo 20 [A (vS s)]=some (R (.own 9 ((w::r).map wT)))) (g2:fo 29 [A (.sl 9 (r.map wT))]=some (R (.tup [.own 2 (ns.map nV),vB true]))) (hb:wb w true false false false false false false):fo 23 [A (vS s)]=some (R (.tup [vI (instW w ns).1,vI (instW w ns).2])):=by
 have q0:eqI ((r.length:Int)+1) 0=false:=eqI_f (by omega)
 have hs2:=osealed_W r
 have k1:(1:Int)≤(r.length:Int)+1:=by omega
 have k2:((r.length:Int)+1).toNat - 1=r.length:=by omega
 have k3:(r.map wT).take r.length=r.map wT:=List.take_of_length_le (by simp)
 have hcn:=oclean_N ns
 have hs3:=osealed_N ns
 obtain⟨h1,h2,h3,h4,h5,h6,h7⟩:=hb
 unfold instW
 simp only[h1,h2,h3,h4,h5,h6,h7]
 simp only[sStart,sTick,sMail,sDrop,sClaim,sFree,sDone] at h1 h2 h3 h4 h5 h6 h7
 refine orc_23 1 ?_
 by_cases hn:ns.length=2
 ·have e:∃ a b,ns=[a,b]:=by
   match ns,hn with
   | [a,b],_=>exact⟨a,b,rfl⟩
  obtain⟨a,b,rfl⟩:=e
  have hq:eqI 2 2=true:=rfl
  simp (maxSteps:=1000000) +contextual -dsimp [Tryd.f23,g1,g2,q0,hs2,k1,k2,k3,h1,h2,h3,h4,h5,h6,h7,hq,List.set]
 ·have hq:eqI (ns.length:Int) 2=false:=eqI_f (by omega)
  simp (maxSteps:=1000000) +contextual -dsimp [Tryd.f23,g1,g2,q0,hs2,hs3,k1,k2,k3,h1,h2,h3,h4,h5,h6,h7,hq,hn,List.set]
theorem li_1 (s w:ByteArray) (r:List ByteArray) (ns:List Nat) (g1:fo 20 [A (vS s)]=some (R (.own 9 ((w::r).map wT)))) (g2:fo 29 [A (.sl 9 (r.map wT))]=some (R (.tup [.own 2 (ns.map nV),vB true]))) (hb:wb w false true false false false false false):fo 23 [A (vS s)]=some (R (.tup [vI (instW w ns).1,vI (instW w ns).2])):=by
 have q0:eqI ((r.length:Int)+1) 0=false:=eqI_f (by omega)
 have hs2:=osealed_W r
 have k1:(1:Int)≤(r.length:Int)+1:=by omega
 have k2:((r.length:Int)+1).toNat - 1=r.length:=by omega
 have k3:(r.map wT).take r.length=r.map wT:=List.take_of_length_le (by simp)
 have hcn:=oclean_N ns
 have hs3:=osealed_N ns
 obtain⟨h1,h2,h3,h4,h5,h6,h7⟩:=hb
 unfold instW
 simp only[h1,h2,h3,h4,h5,h6,h7]
 simp only[sStart,sTick,sMail,sDrop,sClaim,sFree,sDone] at h1 h2 h3 h4 h5 h6 h7
 refine orc_23 1 ?_
 by_cases hn:ns.length=1
 ·have e:∃ a,ns=[a]:=by
   match ns,hn with
   | [a],_=>exact⟨a,rfl⟩
  obtain⟨a,rfl⟩:=e
  have hq:eqI 1 1=true:=rfl
  simp (maxSteps:=1000000) +contextual -dsimp [Tryd.f23,g1,g2,q0,hs2,k1,k2,k3,h1,h2,h3,h4,h5,h6,h7,hq,List.set]
 ·have hq:eqI (ns.length:Int) 1=false:=eqI_f (by omega)
  simp (maxSteps:=1000000) +contextual -dsimp [Tryd.f23,g1,g2,q0,hs2,hs3,k1,k2,k3,h1,h2,h3,h4,h5,h6,h7,hq,hn,List.set]
theorem li_2 (s w:ByteArray) (r:List ByteArray) (ns:List Nat) (g1:fo 20 [A (vS s)]=some (R (.own 9 ((w::r).map wT)))) (g2:fo 29 [A (.sl 9 (r.map wT))]=some (R (.tup [.own 2 (ns.map nV),vB true]))) (hb:wb w false false true false false false false):fo 23 [A (vS s)]=some (R (.tup [vI (instW w ns).1,vI (instW w ns).2])):=by
 have q0:eqI ((r.length:Int)+1) 0=false:=eqI_f (by omega)
 have hs2:=osealed_W r
 have k1:(1:Int)≤(r.length:Int)+1:=by omega
 have k2:((r.length:Int)+1).toNat - 1=r.length:=by omega
 have k3:(r.map wT).take r.length=r.map wT:=List.take_of_length_le (by simp)
 have hcn:=oclean_N ns
 have hs3:=osealed_N ns
 obtain⟨h1,h2,h3,h4,h5,h6,h7⟩:=hb
 unfold instW
 simp only[h1,h2,h3,h4,h5,h6,h7]
 simp only[sStart,sTick,sMail,sDrop,sClaim,sFree,sDone] at h1 h2 h3 h4 h5 h6 h7
 refine orc_23 1 ?_
 by_cases hn:ns.length=2
 ·have e:∃ a b,ns=[a,b]:=by
   match ns,hn with
   | [a,b],_=>exact⟨a,b,rfl⟩
  obtain⟨a,b,rfl⟩:=e
  have hq:eqI 2 2=true:=rfl
  simp (maxSteps:=1000000) +contextual -dsimp [Tryd.f23,g1,g2,q0,hs2,k1,k2,k3,h1,h2,h3,h4,h5,h6,h7,hq,List.set]
 ·have hq:eqI (ns.length:Int) 2=false:=eqI_f (by omega)
  simp (maxSteps:=1000000) +contextual -dsimp [Tryd.f23,g1,g2,q0,hs2,hs3,k1,k2,k3,h1,h2,h3,h4,h5,h6,h7,hq,hn,List.set]
theorem li_3 (s w:ByteArray) (r:List ByteArray) (ns:List Nat) (g1:fo 20 [A (vS s)]=some (R (.own 9 ((w::r).map wT)))) (g2:fo 29 [A (.sl 9 (r.map wT))]=some (R (.tup [.own 2 (ns.map nV),vB true]))) (hb:wb w false false false true false false false):fo 23 [A (vS s)]=some (R (.tup [vI (instW w ns).1,vI (instW w ns).2])):=by
 have q0:eqI ((r.length:Int)+1) 0=false:=eqI_f (by omega)
 have hs2:=osealed_W r
 have k1:(1:Int)≤(r.length:Int)+1:=by omega
 have k2:((r.length:Int)+1).toNat - 1=r.length:=by omega
 have k3:(r.map wT).take r.length=r.map wT:=List.take_of_length_le (by simp)
 have hcn:=oclean_N ns
 have hs3:=osealed_N ns
 obtain⟨h1,h2,h3,h4,h5,h6,h7⟩:=hb
 unfold instW
 simp only[h1,h2,h3,h4,h5,h6,h7]
 simp only[sStart,sTick,sMail,sDrop,sClaim,sFree,sDone] at h1 h2 h3 h4 h5 h6 h7
 refine orc_23 1 ?_
 by_cases hn:ns.length=1
 ·have e:∃ a,ns=[a]:=by
   match ns,hn with
   | [a],_=>exact⟨a,rfl⟩
  obtain⟨a,rfl⟩:=e
  have hq:eqI 1 1=true:=rfl
  simp (maxSteps:=1000000) +contextual -dsimp [Tryd.f23,g1,g2,q0,hs2,k1,k2,k3,h1,h2,h3,h4,h5,h6,h7,hq,List.set]
 ·have hq:eqI (ns.length:Int) 1=false:=eqI_f (by omega)
  simp (maxSteps:=1000000) +contextual -dsimp [Tryd.f23,g1,g2,q0,hs2,hs3,k1,k2,k3,h1,h2,h3,h4,h5,h6,h7,hq,hn,List.set]
theorem li_4 (s w:ByteArray) (r:List ByteArray) (ns:List Nat) (g1:fo 20 [A (vS s)]=some (R (.own 9 ((w::r).map wT)))) (g2:fo 29 [A (.sl 9 (r.map wT))]=some (R (.tup [.own 2 (ns.map nV),vB true]))) (hb:wb w false false false false true false false):fo 23 [A (vS s)]=some (R (.tup [vI (instW w ns).1,vI (instW w ns).2])):=by
 have q0:eqI ((r.length:Int)+1) 0=false:=eqI_f (by omega)
 have hs2:=osealed_W r
 have k1:(1:Int)≤(r.length:Int)+1:=by omega
 have k2:((r.length:Int)+1).toNat - 1=r.length:=by omega
 have k3:(r.map wT).take r.length=r.map wT:=List.take_of_length_le (by simp)
 have hcn:=oclean_N ns
 have hs3:=osealed_N ns
 obtain⟨h1,h2,h3,h4,h5,h6,h7⟩:=hb
 unfold instW
 simp only[h1,h2,h3,h4,h5,h6,h7]
 simp only[sStart,sTick,sMail,sDrop,sClaim,sFree,sDone] at h1 h2 h3 h4 h5 h6 h7
 refine orc_23 1 ?_
 by_cases hn:ns.length=3
 ·have e:∃ a b c,ns=[a,b,c]:=by
   match ns,hn with
   | [a,b,c],_=>exact⟨a,b,c,rfl⟩
  obtain⟨a,b,c,rfl⟩:=e
  have hq:eqI 3 3=true:=rfl
  simp (maxSteps:=1000000) +contextual -dsimp [Tryd.f23,g1,g2,q0,hs2,k1,k2,k3,h1,h2,h3,h4,h5,h6,h7,hq,List.set]
 ·have hq:eqI (ns.length:Int) 3=false:=eqI_f (by omega)
  simp (maxSteps:=1000000) +contextual -dsimp [Tryd.f23,g1,g2,q0,hs2,hs3,k1,k2,k3,h1,h2,h3,h4,h5,h6,h7,hq,hn,List.set]
theorem li_5 (s w:ByteArray) (r:List ByteArray) (ns:List Nat) (g1:fo 20 [A (vS s)]=some (R (.own 9 ((w::r).map wT)))) (g2:fo 29 [A (.sl 9 (r.map wT))]=some (R (.tup [.own 2 (ns.map nV),vB true]))) (hb:wb w false false false false false true false):fo 23 [A (vS s)]=some (R (.tup [vI (instW w ns).1,vI (instW w ns).2])):=by
 have q0:eqI ((r.length:Int)+1) 0=false:=eqI_f (by omega)
 have hs2:=osealed_W r
 have k1:(1:Int)≤(r.length:Int)+1:=by omega
 have k2:((r.length:Int)+1).toNat - 1=r.length:=by omega
 have k3:(r.map wT).take r.length=r.map wT:=List.take_of_length_le (by simp)
 have hcn:=oclean_N ns
 have hs3:=osealed_N ns
 obtain⟨h1,h2,h3,h4,h5,h6,h7⟩:=hb
 unfold instW
 simp only[h1,h2,h3,h4,h5,h6,h7]
 simp only[sStart,sTick,sMail,sDrop,sClaim,sFree,sDone] at h1 h2 h3 h4 h5 h6 h7
 refine orc_23 1 ?_
 by_cases hn:ns.length=3
 ·have e:∃ a b c,ns=[a,b,c]:=by
   match ns,hn with
   | [a,b,c],_=>exact⟨a,b,c,rfl⟩
  obtain⟨a,b,c,rfl⟩:=e
  have hq:eqI 3 3=true:=rfl
  simp (maxSteps:=1000000) +contextual -dsimp [Tryd.f23,g1,g2,q0,hs2,k1,k2,k3,h1,h2,h3,h4,h5,h6,h7,hq,List.set]
 ·have hq:eqI (ns.length:Int) 3=false:=eqI_f (by omega)
  simp (maxSteps:=1000000) +contextual -dsimp [Tryd.f23,g1,g2,q0,hs2,hs3,k1,k2,k3,h1,h2,h3,h4,h5,h6,h7,hq,hn,List.set]
theorem li_6 (s w:ByteArray) (r:List ByteArray) (ns:List Nat) (g1:fo 20 [A (vS s)]=some (R (.own 9 ((w::r).map wT)))) (g2:fo 29 [A (.sl 9 (r.map wT))]=some (R (.tup [.own 2 (ns.map nV),vB true]))) (hb:wb w false false false false false false true):fo 23 [A (vS s)]=some (R (.tup [vI (instW w ns).1,vI (instW w ns).2])):=by
 have q0:eqI ((r.length:Int)+1) 0=false:=eqI_f (by omega)
 have hs2:=osealed_W r
 have k1:(1:Int)≤(r.length:Int)+1:=by omega
 have k2:((r.length:Int)+1).toNat - 1=r.length:=by omega
 have k3:(r.map wT).take r.length=r.map wT:=List.take_of_length_le (by simp)
 have hcn:=oclean_N ns
 have hs3:=osealed_N ns
 obtain⟨h1,h2,h3,h4,h5,h6,h7⟩:=hb
 unfold instW
 simp only[h1,h2,h3,h4,h5,h6,h7]
 simp only[sStart,sTick,sMail,sDrop,sClaim,sFree,sDone] at h1 h2 h3 h4 h5 h6 h7
 refine orc_23 1 ?_
 by_cases hn:ns.length=4
 ·have e:∃ a b c d,ns=[a,b,c,d]:=by
   match ns,hn with
   | [a,b,c,d],_=>exact⟨a,b,c,d,rfl⟩
  obtain⟨a,b,c,d,rfl⟩:=e
  have hq:eqI 4 4=true:=rfl
  simp (maxSteps:=1000000) +contextual -dsimp [Tryd.f23,g1,g2,q0,hs2,k1,k2,k3,h1,h2,h3,h4,h5,h6,h7,hq,List.set]
 ·have hq:eqI (ns.length:Int) 4=false:=eqI_f (by omega)
  simp (maxSteps:=1000000) +contextual -dsimp [Tryd.f23,g1,g2,q0,hs2,hs3,k1,k2,k3,h1,h2,h3,h4,h5,h6,h7,hq,hn,List.set]
theorem li_7 (s w:ByteArray) (r:List ByteArray) (ns:List Nat) (g1:fo 20 [A (vS s)]=some (R (.own 9 ((w::r).map wT)))) (g2:fo 29 [A (.sl 9 (r.map wT))]=some (R (.tup [.own 2 (ns.map nV),vB true]))) (hb:wb w false false false false false false false):fo 23 [A (vS s)]=some (R (.tup [vI (instW w ns).1,vI (instW w ns).2])):=by
 have q0:eqI ((r.length:Int)+1) 0=false:=eqI_f (by omega)
 have hs2:=osealed_W r
 have k1:(1:Int)≤(r.length:Int)+1:=by omega
 have k2:((r.length:Int)+1).toNat - 1=r.length:=by omega
 have k3:(r.map wT).take r.length=r.map wT:=List.take_of_length_le (by simp)
 have hcn:=oclean_N ns
 have hs3:=osealed_N ns
 obtain⟨h1,h2,h3,h4,h5,h6,h7⟩:=hb
 unfold instW
 simp only[h1,h2,h3,h4,h5,h6,h7]
 simp only[sStart,sTick,sMail,sDrop,sClaim,sFree,sDone] at h1 h2 h3 h4 h5 h6 h7
 refine orc_23 1 ?_
 simp (maxSteps:=1000000) +contextual -dsimp [Tryd.f23,g1,g2,q0,hs2,k1,k2,k3,h1,h2,h3,h4,h5,h6,h7,hcn,List.set]
theorem f_l15I (s:ByteArray) (hs:s.size≤1048576):fo 23 [A (vS s)]=some (R (.tup [vI (instM (wds s)).1,vI (instM (wds s)).2])):=by
 have g1:=f_l14W s hs
 have hl:=wds_len s
 have hsz:∀ x,x∈wds s→x.size≤1048576:=fun x hx=>Nat.le_trans (wds_size s x hx) hs
 generalize wds s=l at *
 have hseal:=osealed_W l
 cases l with
 | nil=>
  have q0:eqI 0 0=true:=rfl
  refine orc_23 1 ?_
  simp (maxSteps:=1000000) +contextual -dsimp [Tryd.f23,g1,instM,q0,List.set]
 | cons w r=>
  simp only[List.length_cons] at hl
  have g2:=f_l14Ns r (by omega) (fun x hx=>hsz x (by simp[hx]))
  have q0:eqI ((r.length:Int)+1) 0=false:=eqI_f (by omega)
  have hs2:=osealed_W r
  have k1:(1:Int)≤(r.length:Int)+1:=by omega
  have k2:((r.length:Int)+1).toNat - 1=r.length:=by omega
  have k3:(r.map wT).take r.length=r.map wT:=List.take_of_length_le (by simp)
  clear hsz hl hseal
  simp only[instM]
  cases hn:nums r with
  | none=>
   rw[hn] at g2
   simp only[numsR] at g2
   refine orc_23 1 ?_
   simp (maxSteps:=1000000) +contextual -dsimp [Tryd.f23,g1,g2,q0,hs2,k1,k2,k3,List.set]
  | some ns=>
   rw[hn] at g2
   simp only[numsR] at g2
   rcases wb_cases w with h | h | h | h | h | h | h | h
   ·exact li_0 s w r ns g1 g2 h
   ·exact li_1 s w r ns g1 g2 h
   ·exact li_2 s w r ns g1 g2 h
   ·exact li_3 s w r ns g1 g2 h
   ·exact li_4 s w r ns g1 g2 h
   ·exact li_5 s w r ns g1 g2 h
   ·exact li_6 s w r ns g1 g2 h
   ·exact li_7 s w r ns g1 g2 h
theorem num_some {s:ByteArray} {n:Nat} (h:num4 s.data.toList=some n):numB s 4=true∧numV s=n:=by
 obtain⟨h1,h2,h3⟩:=num4_some h
 have hp:=parse_canon h1 h2
 have hi:=itoa_canon h1
 rw[h3] at hp hi
 have hl:s.data.toList.length=s.size:=by simp
 unfold numB numV
 rw[hp]
 refine⟨?_,rfl⟩
 simp only[Bool.and_eq_true,decide_eq_true_eq]
 refine⟨⟨by omega,?_⟩,by omega⟩
 unfold decB
 rw[Lib.toList_data,Lib.toList_data,hi]
theorem num_none {s:ByteArray} (h:num4 s.data.toList=none):numB s 4=false:=by
 have hl:s.data.toList.length=s.size:=by simp
 cases hb:numB s 4 with
 | false=>rfl
 | true=>
  unfold numB at hb
  split at hb
  ·rename_i v hp
   simp only[Bool.and_eq_true,decide_eq_true_eq] at hb
   obtain⟨⟨h1,h2⟩,h3⟩:=hb
   unfold decB at h2
   rw[Lib.toList_data,Lib.toList_data] at h2
   obtain⟨c1,_⟩:=canon_of_itoa h1 h2
   rw[num4_canon c1 (by omega)] at h
   cases h
  ·cases hb
theorem pureRun_bind {α β:Type} {P:Program} (s:Sem α) (f:α→Sem β):pureRun P (s >>= f)=(pureRun P s).bind (fun a=>pureRun P (f a)):=by
 show pureRun P (Sem.bind s f)=_
 induction s<;>simp_all [Sem.bind,pureRun]
theorem eqB_S (a b:ByteArray):(a==b)=eqS a b:=by
 unfold eqS
 rw[Lib.toList_data,Lib.toList_data]
 show (a.data==b.data)=_
 rw[Bool.eq_iff_iff]
 simp
theorem pr_eqlF (x y:Operand) (a b:ByteArray) (m n:Int):pureRun Tryd.prog (do eqGuard .eql 52 x y (.agg #[.string a,.int .i64 m]) (.agg #[.string b,.int .i64 n]);binOp .eql 52 (.agg #[.string a,.int .i64 m]) (.agg #[.string b,.int .i64 n]))=some (.bool (andB (eqS a b) (eqI m n))):=by
 have h1:pureRun Tryd.prog (eqGuard .eql 52 x y (.agg #[.string a,.int .i64 m]) (.agg #[.string b,.int .i64 n]))=some ():=by kernel_rfl
 have hS:Tryd.prog.underlying 52=some (.struct (Tryd.prog.fieldsOf 52)):=by kernel_rfl
 have hp:Tryd.prog.stoodInHeld 52=false:=by kernel_rfl
 have u9:=Tryd.underlying9
 have u3:=Tryd.underlying3
 rw[pureRun_bind,h1]
 simp only[Option.bind_some,binOp,pureRun_bind,Op.equal,Op.maxDepth]
 have e:pureRun Tryd.prog (Op.equalIn 10000 52 (.agg #[.string a,.int .i64 m]) (.agg #[.string b,.int .i64 n]))=some (andB (eqS a b) (eqI m n)):=by
  have p1:∀ xs ys,pureRun Tryd.prog (part 9 #[.string xs,.int .i64 ys] 0)=some (.string xs):=fun _ _=>by kernel_rfl
  have p2:∀ xs ys,pureRun Tryd.prog (part 3 #[.string xs,.int .i64 ys] 1)=some (.int .i64 ys):=fun _ _=>by kernel_rfl
  have q1:∀ d a b,pureRun Tryd.prog (Op.equalIn (d+1) 9 (.string a) (.string b))=some (a==b):=fun _ _ _=>by kernel_rfl
  have q2:∀ d a b,pureRun Tryd.prog (Op.equalIn (d+1) 3 (.int .i64 a) (.int .i64 b))=some (a==b):=fun _ _ _=>by kernel_rfl
  rw[show (10000:Nat)=9999+1 from rfl,Op.equalIn]
  have hu:pureRun Tryd.prog (underlying 52)=some (.struct (Tryd.prog.fieldsOf 52)):=by kernel_rfl
  have hpr:pureRun Tryd.prog program=some Tryd.prog:=rfl
  have hp':Tryd.prog.stoodInHeld (52:Nat)=false:=hp
  have hr:∀ {α:Type} (a:α),pureRun Tryd.prog (pure a:Sem α)=some a:=fun _=>rfl
  simp only[pureRun_bind,hu,hpr,hp,Option.bind_some,hr,Bool.false_eq_true,if_false]
  simp only[Program.fieldsOf,Tryd.underlying52,List.forIn_toArray,List.forIn_cons,List.forIn_nil]
  have n1 : ("word" ≠ "_") := by decide
  have n2 : ("many" ≠ "_") := by decide
  have p1:∀ xs ys,pureRun Tryd.prog (part 9 #[.string xs,.int .i64 ys] 0)=some (.string xs):=fun _ _=>by kernel_rfl
  simp only[n1,n2,ne_eq,not_false_eq_true,if_true,pureRun_bind,p1,p2,Option.bind_some,show (9999:Nat)=9998+1 from rfl,q1,q2]
  rw[eqB_S]
  cases eqS a b<;>simp only[Bool.not_true,Bool.not_false,Bool.false_eq_true,if_false,if_true,hr,Option.bind_some]
  ·rfl
  ·simp only[pureRun_bind,p1,p2,Option.bind_some,q1,q2]
   show _=some (m==n)
   cases m==n<;>rfl
 rw[e];rfl
abbrev frT (p:ByteArray×Int):List T:=[vS p.1,vI p.2]
def isF (w:ByteArray) (n:Int) (p:ByteArray×Int):Bool:=andB (eqS w p.1) (eqI n p.2)
theorem lp35 (w:ByteArray) (n:Int) (all:List (ByteArray×Int)) (hall:all.length≤1000):∀ (rest:List (ByteArray×Int)) (i:Nat),all.drop i=rest→i+rest.length=all.length→
  (rest.any (isF w n)=false∧evLoop E (orc E) (35:Nat) (rest.length+1) (loopOf Tryd.f35 0) ⟨19,[(0,.sl 52 (all.map frT)),(3,.ptr 3 1 [] 0),(7,vI all.length),(8,vI i)],[(3,⟨1,1,true,[vS w,vI n]⟩)],2⟩=
   some (.exit 0,⟨19,[(0,.sl 52 (all.map frT)),(3,.ptr 3 1 [] 0),(7,vI all.length),(8,vI all.length),(9,vB false)],[(3,⟨1,1,true,[vS w,vI n]⟩)],2⟩))∨
  (rest.any (isF w n)=true∧∃ j:Nat,evLoop E (orc E) (35:Nat) (rest.length+1) (loopOf Tryd.f35 0) ⟨19,[(0,.sl 52 (all.map frT)),(3,.ptr 3 1 [] 0),(7,vI all.length),(8,vI i)],[(3,⟨1,1,true,[vS w,vI n]⟩)],2⟩=
   some (.ret,⟨19,[(4,vI j)],[],2⟩))
 | [],i,h,hl=>by
  simp only[List.length_nil,Nat.add_zero] at hl
  subst hl
  have hlt:ltI (all.length:Int) (all.length:Int)=false:=ltI_f (by omega)
  refine .inl ⟨rfl,?_⟩
  rw[loop_eq]
  simp +contextual -dsimp [Tryd.f35,hlt]
 | c::rest,i,h,hl=>by
  obtain⟨hi,hc,hr⟩:=drop_cons h
  simp only[List.length_cons] at hl
  obtain⟨j,ej⟩:∃ j,j=i+1:=⟨_,rfl⟩
  have hlt:ltI (i:Int) (all.length:Int)=true:=ltI_t (by omega)
  have hw:IntKind.i64.wrap ((i:Int)+1)=(j:Int):=by rw[wrapI]<;>omega
  have g:=fun x y=>pr_eqlF x y w c.1 n c.2
  rw[←ej] at hr
  simp only[List.any_cons]
  cases q:isF w n c with
  | true=>
   unfold isF at q
   rw[q] at g
   refine .inr ⟨rfl,i,evLoop_out ?_ (by simp)⟩
   simp (maxSteps:=1000000) +contextual -dsimp [Tryd.f35,hlt,hi,hc,hw,g,List.set]
  | false=>
   unfold isF at q
   rw[q] at g
   have step:∀ {r},evLoop E (orc E) (35:Nat) (rest.length+1) (loopOf Tryd.f35 0) ⟨19,[(0,.sl 52 (all.map frT)),(3,.ptr 3 1 [] 0),(7,vI all.length),(8,vI j)],[(3,⟨1,1,true,[vS w,vI n]⟩)],2⟩=r→
     evLoop E (orc E) (35:Nat) (rest.length+1+1) (loopOf Tryd.f35 0) ⟨19,[(0,.sl 52 (all.map frT)),(3,.ptr 3 1 [] 0),(7,vI all.length),(8,vI i)],[(3,⟨1,1,true,[vS w,vI n]⟩)],2⟩=r:=fun ih=>by
    refine evLoop_next ?_ ih
    simp (maxSteps:=1000000) +contextual -dsimp [Tryd.f35,hlt,hi,hc,hw,g,List.set]
   rcases lp35 w n all hall rest j hr (by omega) with⟨e,ih⟩ | ⟨e,k,ih⟩
   ·exact .inl ⟨by rw[e];rfl,step ih⟩
   ·exact .inr ⟨by rw[e];rfl,k,step ih⟩
theorem f_35 (w:ByteArray) (n:Int) (all:List (ByteArray×Int)) (hall:all.length≤1000):∃ x,fo 35 [A (.sl 52 (all.map frT)),A (.agg [vS w,vI n])]=some (R (vI x))∧leI 0 x=all.any (isF w n):=by
 rcases lp35 w n all hall all 0 rfl (by omega) with⟨e,hlp⟩ | ⟨e,k,hlp⟩
 ·refine⟨-1,?_,by rw[e];rfl⟩
  simp -dsimp [Tryd.f35] at hlp
  refine orc_35 (all.length+1) ?_
  simp (maxSteps:=1000000) +contextual -dsimp [Tryd.f35,hlp,List.set]
 ·refine⟨k,?_,by rw[e];exact leI_t (by omega)⟩
  simp -dsimp [Tryd.f35] at hlp
  refine orc_35 (all.length+1) ?_
  simp (maxSteps:=1000000) +contextual -dsimp [Tryd.f35,hlp,List.set]
theorem f_30 (w:ByteArray) (n:Int) (all:List (ByteArray×Int)) (hall:all.length≤1000):fo 30 [A (.sl 52 (all.map frT)),A (.agg [vS w,vI n])]=some (R (vB (all.any (isF w n)))):=by
 obtain⟨x,g,e⟩:=f_35 w n all hall
 refine orc_30 1 ?_
 simp (maxSteps:=1000000) +contextual -dsimp [Tryd.f30,g,e,List.set]
def formsL:List (ByteArray×Int):=[(sStart,2),(sMail,2),(sTick,1),(sDrop,1),(sClaim,3),(sFree,3),(sDone,4)]
theorem forms_eq:(theForms.map (·.map T.v))=formsL.map frT:=rfl
theorem ext_31 (s:ByteArray) (hs:s.size≤1048576):fo 31 [A (vS s),A (vI 4)]=some (R (.tup [vI (numV s),vB (numB s 4)])):=by
 refine orc_ext (g:=numT) rfl ?_
 unfold numT
 simp only[hs,if_true]
theorem lp24 (w0:List (List T)) (all:List ByteArray) (hall:all.length≤2097152) (hsz:∀ s,s∈all→s.size≤1048576):∀ (rest:List ByteArray) (i:Nat) (out:List Nat),all.drop i=rest→out.length≤i→i+rest.length=all.length→
  (∃ ns,nums rest=some ns∧evLoop E (orc E) (24:Nat) (rest.length+1) (loopOf Tryd.f24 0) ⟨52,[(5,.sl 9 w0),(6,.ref 6 1 [] 0 out.length),(30,.sl 9 (all.map wT)),(31,vI all.length),(32,vI i)],[(6,⟨1,1,false,[.own 2 (out.map nV)]⟩)],2⟩=
   some (.exit 0,⟨52,[(5,.sl 9 w0),(6,.ref 6 1 [] 0 (out++ns).length),(30,.sl 9 (all.map wT)),(31,vI all.length),(32,vI all.length),(33,vB false)],[(6,⟨1,1,false,[.own 2 ((out++ns).map nV)]⟩)],2⟩))∨
  (nums rest=none∧∃ o2:List Nat,evLoop E (orc E) (24:Nat) (rest.length+1) (loopOf Tryd.f24 0) ⟨52,[(5,.sl 9 w0),(6,.ref 6 1 [] 0 out.length),(30,.sl 9 (all.map wT)),(31,vI all.length),(32,vI i)],[(6,⟨1,1,false,[.own 2 (out.map nV)]⟩)],2⟩=
   some (.ret,⟨52,[(2,vS ⟨#[]⟩),(3,.v (.slice none 0 0)),(4,vB false)],[(6,⟨1,1,false,[.own 2 (o2.map nV)]⟩)],2⟩))
 | [],i,out,h,ho,hl=>by
  simp only[List.length_nil,Nat.add_zero] at hl
  subst hl
  have hlt:ltI (all.length:Int) (all.length:Int)=false:=ltI_f (by omega)
  refine .inl ⟨[],rfl,?_⟩
  rw[loop_eq]
  simp +contextual -dsimp [Tryd.f24,hlt]
 | c::rest,i,out,h,ho,hl=>by
  obtain⟨hi,hc,hr⟩:=drop_cons h
  simp only[List.length_cons] at hl
  obtain⟨j,ej⟩:∃ j,j=i+1:=⟨_,rfl⟩
  have hlt:ltI (i:Int) (all.length:Int)=true:=ltI_t (by omega)
  have hw:IntKind.i64.wrap ((i:Int)+1)=(j:Int):=by rw[wrapI]<;>omega
  have g:=ext_31 c (hsz c (by rw[←hc];exact List.getElem_mem hi))
  have hm:out.length+1≤maxElems:=by unfold maxElems;omega
  rw[←ej] at hr
  simp only[nums]
  cases q:num4 c.data.toList with
  | none=>
   rw[num_none q] at g
   refine .inr ⟨rfl,out,evLoop_out ?_ (by simp)⟩
   simp (maxSteps:=1000000) +contextual -dsimp [Tryd.f24,hlt,hi,hc,hw,g,List.set]
  | some n=>
   obtain⟨q1,q2⟩:=num_some q
   rw[q1,q2] at g
   have step:∀ {r},evLoop E (orc E) (24:Nat) (rest.length+1) (loopOf Tryd.f24 0) ⟨52,[(5,.sl 9 w0),(6,.ref 6 1 [] 0 (out++[n]).length),(30,.sl 9 (all.map wT)),(31,vI all.length),(32,vI j)],[(6,⟨1,1,false,[.own 2 ((out++[n]).map nV)]⟩)],2⟩=r→
     evLoop E (orc E) (24:Nat) (rest.length+1+1) (loopOf Tryd.f24 0) ⟨52,[(5,.sl 9 w0),(6,.ref 6 1 [] 0 out.length),(30,.sl 9 (all.map wT)),(31,vI all.length),(32,vI i)],[(6,⟨1,1,false,[.own 2 (out.map nV)]⟩)],2⟩=r:=fun ih=>by
    refine evLoop_next ?_ ih
    simp (maxSteps:=1000000) +contextual -dsimp [Tryd.f24,hlt,hi,hc,hw,g,hm,List.set]
   rcases lp24 w0 all hall hsz rest j (out++[n]) hr (by simp;omega) (by omega) with⟨ns,e,ih⟩ | ⟨e,o2,ih⟩
   ·refine .inl ⟨n::ns,by rw[e],?_⟩
    rw[List.append_assoc] at ih
    exact step ih
   ·exact .inr ⟨by rw[e],o2,step ih⟩
abbrev cmdBad:Res:=R (.tup [vS ⟨#[]⟩,.own 2 [],vB false])
def isForm (w:ByteArray) (n:Int):Bool:=formsL.any (isF w n)
def cmdR (l:List ByteArray):Res:=match l with
 | []=>cmdBad
 | w::r=>if isForm w r.length=true then (match nums r with | some ns=>R (.tup [vS w,.own 2 (ns.map nV),vB true]) | none=>cmdBad) else cmdBad
theorem f_command (s:ByteArray) (hs:s.size≤1048576):fo 24 [A (vS s)]=some (cmdR (wds s)):=by
 have g1:=f_wordsOf s hs
 have hl:=wds_len s
 have hsz:∀ x,x∈wds s→x.size≤1048576:=fun x hx=>Nat.le_trans (wds_size s x hx) hs
 generalize wds s=l at *
 have hseal:=osealed_W l
 cases l with
 | nil=>
  have q0:eqI 0 0=true:=rfl
  refine orc_24 1 ?_
  simp (maxSteps:=1000000) +contextual -dsimp [Tryd.f24,g1,cmdR,q0,List.set]
 | cons w r=>
  simp only[List.length_cons] at hl
  have q0:eqI ((r.length:Int)+1) 0=false:=eqI_f (by omega)
  have hs2:=osealed_W r
  have k1:(1:Int)≤(r.length:Int)+1:=by omega
  have k2:((r.length:Int)+1).toNat - 1=r.length:=by omega
  have k3:(r.map wT).take r.length=r.map wT:=List.take_of_length_le (by simp)
  have kw:IntKind.i64.wrap (r.length:Int)=(r.length:Int):=by rw[wrapI]<;>omega
  have g2:=f_30 w (r.length:Int) formsL (by decide)
  have ki:pureRun Tryd.prog (isArr 53 52 7)=some true:=by kernel_rfl
  rw[←forms_eq] at g2
  simp only[cmdR]
  unfold isForm
  have lp:=lp24 (wT w::r.map wT) r (by omega) (fun x hx=>hsz x (by simp[hx])) r 0 [] rfl (by simp) (by omega)
  clear hsz hl hseal
  generalize formsL.any (isF w (r.length:Int))=b at *
  simp only[theForms,List.map_cons,List.map_nil] at g2
  cases b with
  | false=>
   refine orc_24 1 ?_
   simp (maxSteps:=1000000) +contextual -dsimp [Tryd.f24,g1,g2,q0,hs2,k1,k2,k3,kw,ki,theArr,theForms,List.set]
  | true=>
   rcases lp with⟨ns,e,lp⟩ | ⟨e,o2,lp⟩
   ·rw[e]
    rw[List.nil_append] at lp
    have hc:=oclean_N ns
    simp -dsimp [Tryd.f24] at lp
    refine orc_24 (r.length+1) ?_
    simp (maxSteps:=1000000) +contextual -dsimp [Tryd.f24,g1,g2,q0,hs2,k1,k2,k3,kw,ki,theArr,theForms,lp,hc,List.set]
   ·rw[e]
    have hc:=oclean_N o2
    simp -dsimp [Tryd.f24] at lp
    refine orc_24 (r.length+1) ?_
    simp (maxSteps:=1000000) +contextual -dsimp [Tryd.f24,g1,g2,q0,hs2,k1,k2,k3,kw,ki,theArr,theForms,lp,hc,List.set]
theorem f_InstBad (s:ByteArray) (g:fo 24 [A (vS s)]=some cmdBad):fo 12 [A (vS s)]=some (R (.agg [vI 5,vI 0])):=by
 refine orc_12 1 ?_
 simp (maxSteps:=1000000) +contextual -dsimp [Tryd.f12,g,List.set]
theorem io_0 (s w:ByteArray) (a b:Nat) (g:fo 24 [A (vS s)]=some (R (.tup [vS w,.own 2 ([a,b].map nV),vB true]))) (hb:wb w true false false false false false false):fo 12 [A (vS s)]=some (R (.agg [vI 4,vI 0])):=by
 obtain⟨h1,h2,h3,h4,h5,h6,h7⟩:=hb
 simp only[sStart,sTick,sMail,sDrop,sClaim,sFree,sDone] at h1 h2 h3 h4 h5 h6 h7
 refine orc_12 1 ?_
 simp (maxSteps:=1000000) +contextual -dsimp [Tryd.f12,g,h1,h2,h3,h4,h5,h6,h7,List.set]
theorem io_1 (s w:ByteArray) (a:Nat) (g:fo 24 [A (vS s)]=some (R (.tup [vS w,.own 2 ([a].map nV),vB true]))) (hb:wb w false true false false false false false):fo 12 [A (vS s)]=some (R (.agg [vI 4,vI 0])):=by
 obtain⟨h1,h2,h3,h4,h5,h6,h7⟩:=hb
 simp only[sStart,sTick,sMail,sDrop,sClaim,sFree,sDone] at h1 h2 h3 h4 h5 h6 h7
 refine orc_12 1 ?_
 simp (maxSteps:=1000000) +contextual -dsimp [Tryd.f12,g,h1,h2,h3,h4,h5,h6,h7,List.set]
theorem io_2 (s w:ByteArray) (a b:Nat) (g:fo 24 [A (vS s)]=some (R (.tup [vS w,.own 2 ([a,b].map nV),vB true]))) (hb:wb w false false true false false false false):fo 12 [A (vS s)]=some (R (.agg [vI 0,vI (a:Int)])):=by
 obtain⟨h1,h2,h3,h4,h5,h6,h7⟩:=hb
 simp only[sStart,sTick,sMail,sDrop,sClaim,sFree,sDone] at h1 h2 h3 h4 h5 h6 h7
 refine orc_12 1 ?_
 simp (maxSteps:=1000000) +contextual -dsimp [Tryd.f12,g,h1,h2,h3,h4,h5,h6,h7,List.set]
theorem io_3 (s w:ByteArray) (a:Nat) (g:fo 24 [A (vS s)]=some (R (.tup [vS w,.own 2 ([a].map nV),vB true]))) (hb:wb w false false false true false false false):fo 12 [A (vS s)]=some (R (.agg [vI 0,vI (a:Int)])):=by
 obtain⟨h1,h2,h3,h4,h5,h6,h7⟩:=hb
 simp only[sStart,sTick,sMail,sDrop,sClaim,sFree,sDone] at h1 h2 h3 h4 h5 h6 h7
 refine orc_12 1 ?_
 simp (maxSteps:=1000000) +contextual -dsimp [Tryd.f12,g,h1,h2,h3,h4,h5,h6,h7,List.set]
theorem io_4 (s w:ByteArray) (a b c:Nat) (g:fo 24 [A (vS s)]=some (R (.tup [vS w,.own 2 ([a,b,c].map nV),vB true]))) (hb:wb w false false false false true false false):fo 12 [A (vS s)]=some (R (.agg [vI 0,vI (b:Int)])):=by
 obtain⟨h1,h2,h3,h4,h5,h6,h7⟩:=hb
 simp only[sStart,sTick,sMail,sDrop,sClaim,sFree,sDone] at h1 h2 h3 h4 h5 h6 h7
 refine orc_12 1 ?_
 simp (maxSteps:=1000000) +contextual -dsimp [Tryd.f12,g,h1,h2,h3,h4,h5,h6,h7,List.set]
theorem io_5 (s w:ByteArray) (a b c:Nat) (g:fo 24 [A (vS s)]=some (R (.tup [vS w,.own 2 ([a,b,c].map nV),vB true]))) (hb:wb w false false false false false true false):fo 12 [A (vS s)]=some (R (.agg [vI 0,vI (b:Int)])):=by
 obtain⟨h1,h2,h3,h4,h5,h6,h7⟩:=hb
 simp only[sStart,sTick,sMail,sDrop,sClaim,sFree,sDone] at h1 h2 h3 h4 h5 h6 h7
 refine orc_12 1 ?_
 simp (maxSteps:=1000000) +contextual -dsimp [Tryd.f12,g,h1,h2,h3,h4,h5,h6,h7,List.set]
theorem io_6 (s w:ByteArray) (a b c d:Nat) (g:fo 24 [A (vS s)]=some (R (.tup [vS w,.own 2 ([a,b,c,d].map nV),vB true]))) (hb:wb w false false false false false false true):fo 12 [A (vS s)]=some (R (.agg [vI 0,vI (b:Int)])):=by
 obtain⟨h1,h2,h3,h4,h5,h6,h7⟩:=hb
 simp only[sStart,sTick,sMail,sDrop,sClaim,sFree,sDone] at h1 h2 h3 h4 h5 h6 h7
 refine orc_12 1 ?_
 simp (maxSteps:=1000000) +contextual -dsimp [Tryd.f12,g,h1,h2,h3,h4,h5,h6,h7,List.set]
theorem nums_len:∀ (r:List ByteArray) (ns:List Nat),nums r=some ns→ns.length=r.length
 | [],ns,h=>by simp only[nums,Option.some.injEq] at h;subst h;rfl
 | s::r,ns,h=>by
  simp only[nums] at h
  split at h
  ·cases h
  ·split at h
   ·cases h
   ·rename_i _ n _ ms e
    simp only[Option.some.injEq] at h
    subst h
    simp[nums_len r ms e]
theorem f_InstOf (s:ByteArray) (hs:s.size≤1048576):fo 12 [A (vS s)]=some (R (.agg [vI (instM (wds s)).2,vI (instM (wds s)).1])):=by
 have g:=f_command s hs
 generalize wds s=l at *
 cases l with
 | nil=>exact f_InstBad s g
 | cons w r=>
  simp only[cmdR,instM] at g ⊢
  cases hn:nums r with
  | none=>
   rw[hn] at g
   simp only[ite_self] at g
   exact f_InstBad s g
  | some ns=>
   rw[hn] at g
   simp only at g ⊢
   have hl:=nums_len r ns hn
   rw[←hl] at g
   clear hn hl
   have eI:∀ n:Nat,eqI (ns.length:Int) n=decide (ns.length=n):=fun n=>by
    by_cases h:ns.length=n
    ·rw[eqI_t (by omega)];simp[h]
    ·rw[eqI_f (by omega)];simp[h]
   have e1:eqI (ns.length:Int) 1=decide (ns.length=1):=eI 1
   have e2:eqI (ns.length:Int) 2=decide (ns.length=2):=eI 2
   have e3:eqI (ns.length:Int) 3=decide (ns.length=3):=eI 3
   have e4:eqI (ns.length:Int) 4=decide (ns.length=4):=eI 4
   rcases wb_cases w with h | h | h | h | h | h | h | h
   ·have h':=h
    obtain⟨h1,h2,h3,h4,h5,h6,h7⟩:=h'
    simp only[isForm,formsL,isF,List.any_cons,List.any_nil,h1,h2,h3,h4,h5,h6,h7,andB,Bool.true_and,Bool.false_and,Bool.false_or,Bool.or_false,e1,e2,e3,e4,decide_eq_true_eq] at g
    unfold instW
    simp only[h1,h2,h3,h4,h5,h6,h7,true_and,false_and,Bool.false_eq_true,false_or,or_false]
    by_cases hq:ns.length=2
    ·rw[if_pos hq] at g
     have e:∃ a b,ns=[a,b]:=by
      match ns,hq with
      | [a,b],_=>exact⟨a,b,rfl⟩
     obtain⟨a,b,rfl⟩:=e
     exact io_0 s w a b g h
    ·rw[if_neg hq] at g
     simp only[hq,if_false]
     exact f_InstBad s g
   ·have h':=h
    obtain⟨h1,h2,h3,h4,h5,h6,h7⟩:=h'
    simp only[isForm,formsL,isF,List.any_cons,List.any_nil,h1,h2,h3,h4,h5,h6,h7,andB,Bool.true_and,Bool.false_and,Bool.false_or,Bool.or_false,e1,e2,e3,e4,decide_eq_true_eq] at g
    unfold instW
    simp only[h1,h2,h3,h4,h5,h6,h7,true_and,false_and,Bool.false_eq_true,false_or,or_false]
    by_cases hq:ns.length=1
    ·rw[if_pos hq] at g
     have e:∃ a,ns=[a]:=by
      match ns,hq with
      | [a],_=>exact⟨a,rfl⟩
     obtain⟨a,rfl⟩:=e
     exact io_1 s w a g h
    ·rw[if_neg hq] at g
     simp only[hq,if_false]
     exact f_InstBad s g
   ·have h':=h
    obtain⟨h1,h2,h3,h4,h5,h6,h7⟩:=h'
    simp only[isForm,formsL,isF,List.any_cons,List.any_nil,h1,h2,h3,h4,h5,h6,h7,andB,Bool.true_and,Bool.false_and,Bool.false_or,Bool.or_false,e1,e2,e3,e4,decide_eq_true_eq] at g
    unfold instW
    simp only[h1,h2,h3,h4,h5,h6,h7,true_and,false_and,Bool.false_eq_true,false_or,or_false]
    by_cases hq:ns.length=2
    ·rw[if_pos hq] at g
     have e:∃ a b,ns=[a,b]:=by
      match ns,hq with
      | [a,b],_=>exact⟨a,b,rfl⟩
     obtain⟨a,b,rfl⟩:=e
     exact io_2 s w a b g h
    ·rw[if_neg hq] at g
     simp only[hq,if_false]
     exact f_InstBad s g
   ·have h':=h
    obtain⟨h1,h2,h3,h4,h5,h6,h7⟩:=h'
    simp only[isForm,formsL,isF,List.any_cons,List.any_nil,h1,h2,h3,h4,h5,h6,h7,andB,Bool.true_and,Bool.false_and,Bool.false_or,Bool.or_false,e1,e2,e3,e4,decide_eq_true_eq] at g
    unfold instW
    simp only[h1,h2,h3,h4,h5,h6,h7,true_and,false_and,Bool.false_eq_true,false_or,or_false]
    by_cases hq:ns.length=1
    ·rw[if_pos hq] at g
     have e:∃ a,ns=[a]:=by
      match ns,hq with
      | [a],_=>exact⟨a,rfl⟩
     obtain⟨a,rfl⟩:=e
     exact io_3 s w a g h
    ·rw[if_neg hq] at g
     simp only[hq,if_false]
     exact f_InstBad s g
   ·have h':=h
    obtain⟨h1,h2,h3,h4,h5,h6,h7⟩:=h'
    simp only[isForm,formsL,isF,List.any_cons,List.any_nil,h1,h2,h3,h4,h5,h6,h7,andB,Bool.true_and,Bool.false_and,Bool.false_or,Bool.or_false,e1,e2,e3,e4,decide_eq_true_eq] at g
    unfold instW
    simp only[h1,h2,h3,h4,h5,h6,h7,true_and,false_and,Bool.false_eq_true,false_or,or_false]
    by_cases hq:ns.length=3
    ·rw[if_pos hq] at g
     have e:∃ a b c,ns=[a,b,c]:=by
      match ns,hq with
      | [a,b,c],_=>exact⟨a,b,c,rfl⟩
     obtain⟨a,b,c,rfl⟩:=e
     exact io_4 s w a b c g h
    ·rw[if_neg hq] at g
     simp only[hq,if_false]
     exact f_InstBad s g
   ·have h':=h
    obtain⟨h1,h2,h3,h4,h5,h6,h7⟩:=h'
    simp only[isForm,formsL,isF,List.any_cons,List.any_nil,h1,h2,h3,h4,h5,h6,h7,andB,Bool.true_and,Bool.false_and,Bool.false_or,Bool.or_false,e1,e2,e3,e4,decide_eq_true_eq] at g
    unfold instW
    simp only[h1,h2,h3,h4,h5,h6,h7,true_and,false_and,Bool.false_eq_true,false_or,or_false]
    by_cases hq:ns.length=3
    ·rw[if_pos hq] at g
     have e:∃ a b c,ns=[a,b,c]:=by
      match ns,hq with
      | [a,b,c],_=>exact⟨a,b,c,rfl⟩
     obtain⟨a,b,c,rfl⟩:=e
     exact io_5 s w a b c g h
    ·rw[if_neg hq] at g
     simp only[hq,if_false]
     exact f_InstBad s g
   ·have h':=h
    obtain⟨h1,h2,h3,h4,h5,h6,h7⟩:=h'
    simp only[isForm,formsL,isF,List.any_cons,List.any_nil,h1,h2,h3,h4,h5,h6,h7,andB,Bool.true_and,Bool.false_and,Bool.false_or,Bool.or_false,e1,e2,e3,e4,decide_eq_true_eq] at g
    unfold instW
    simp only[h1,h2,h3,h4,h5,h6,h7,true_and,false_and,Bool.false_eq_true,false_or,or_false]
    by_cases hq:ns.length=4
    ·rw[if_pos hq] at g
     have e:∃ a b c d,ns=[a,b,c,d]:=by
      match ns,hq with
      | [a,b,c,d],_=>exact⟨a,b,c,d,rfl⟩
     obtain⟨a,b,c,d,rfl⟩:=e
     exact io_6 s w a b c d g h
    ·rw[if_neg hq] at g
     simp only[hq,if_false]
     exact f_InstBad s g
   ·have h':=h
    obtain⟨h1,h2,h3,h4,h5,h6,h7⟩:=h'
    simp only[isForm,formsL,isF,List.any_cons,List.any_nil,h1,h2,h3,h4,h5,h6,h7,andB,Bool.true_and,Bool.false_and,Bool.false_or,Bool.or_false,e1,e2,e3,e4,decide_eq_true_eq] at g
    unfold instW
    simp only[h1,h2,h3,h4,h5,h6,h7,true_and,false_and,Bool.false_eq_true,false_or,or_false]
    simp only[if_false] at g ⊢
    exact f_InstBad s g
end Go.TM.Dw
