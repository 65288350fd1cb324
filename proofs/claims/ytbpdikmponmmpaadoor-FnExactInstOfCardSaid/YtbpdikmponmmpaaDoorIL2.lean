/- What functions of the program come to, by the machine. -/
import Derived.Lib.ParseIntB
import Derived.Lib.ItoaNum
import Derived.Test.YtbpdikmponmmpaaDoorIL1
import Derived.Laws.StructEq
set_option linter.unusedSimpArgs false
set_option linter.unusedVariables false
set_option maxHeartbeats 4000000
namespace Go.TM.Dw
open Go.Lib
def isDg (c:UInt8):Prop:=48≤c.toNat∧c.toNat≤57
instance (c:UInt8):Decidable (isDg c):=by unfold isDg;infer_instance
def dstep (acc:Nat) (c:UInt8):Nat:=acc*10+(c.toNat - 48)
def dval (acc:Nat) (l:List UInt8):Nat:=l.foldl dstep acc
theorem dval_cons (acc:Nat) (c:UInt8) (r:List UInt8):dval acc (c::r)=dval (dstep acc c) r:=by unfold dval;rw[List.foldl_cons]
theorem dval_nil (acc:Nat):dval acc []=acc:=by unfold dval;rw[List.foldl_nil]
def canon (l:List UInt8):Prop:=l≠[]∧(∀ c,c∈l→isDg c)∧(l.length=1∨l.head?≠some 48)
theorem dval_snoc (l:List UInt8) (acc:Nat) (c:UInt8):dval acc (l++[c])=dval acc l*10+(c.toNat - 48):=by
 unfold dval
 rw[List.foldl_append,List.foldl_cons,List.foldl_nil]
 rfl
theorem dval_ge:∀ (l:List UInt8) (acc:Nat),acc≤dval acc l:=by
 intro l
 induction l with
 | nil=>intro acc;exact Nat.le_refl _
 | cons x l ih=>
  intro acc
  rw[dval_cons]
  have h1:=ih (dstep acc x)
  have h2:acc≤dstep acc x:=by unfold dstep;omega
  omega
theorem dval_pos {l:List UInt8} (h1:l≠[]) (h2:∀ c,c∈l→isDg c) (h3:l.head?≠some 48):1≤dval 0 l:=by
 cases l with
 | nil=>exact absurd rfl h1
 | cons c r=>
  rw[dval_cons]
  have hd:=h2 c (by simp)
  have hc:c.toNat≠48:=fun e=>h3 (by simp only[List.head?_cons,Option.some.injEq];exact UInt8.toNat_inj.1 e)
  have h4:=dval_ge r (dstep 0 c)
  have h5:1≤dstep 0 c:=by unfold dstep;unfold isDg at hd;omega
  omega
theorem ofNat_digit {c:UInt8} (h:isDg c):UInt8.ofNat (48+(c.toNat - 48))=c:=by
 unfold isDg at h
 rw[show 48+(c.toNat - 48)=c.toNat by omega]
 simp
theorem dec_of_canon:∀ (n:Nat) (l:List UInt8),l.length=n→canon l→decDigits (dval 0 l)=l:=by
 intro n
 induction n with
 | zero=>intro l hl hc;exact absurd (List.length_eq_zero_iff.1 hl) hc.1
 | succ n ih=>
  intro l hl hc
  obtain⟨h1,h2,h3⟩:=hc
  have e:l.dropLast++[l.getLast h1]=l:=List.dropLast_concat_getLast h1
  generalize l.dropLast=p at e
  generalize l.getLast h1=c at e
  subst e
  have hd:=h2 c (by simp)
  rw[dval_snoc]
  cases p with
  | nil=>
   rw[dval_nil,List.nil_append]
   unfold isDg at hd
   rw[Nat.zero_mul,Nat.zero_add,decDigits_one (by omega),ofNat_digit (by unfold isDg;omega)]
  | cons x r=>
   have hx:(x::r).head?≠some 48:=by
    rcases h3 with h3 | h3
    ·simp at h3
    ·simpa using h3
   have hp:canon (x::r):=⟨by simp,fun d hd=>h2 d (by simp at hd ⊢;rcases hd with hd | hd;exact .inl hd;exact .inr (.inl hd)),.inr hx⟩
   have i1:=ih (x::r) (by simp at hl ⊢;omega) hp
   have pos:=dval_pos hp.1 hp.2.1 hx
   unfold isDg at hd
   rw[decDigits,dif_neg (by omega),show (dval 0 (x::r)*10+(c.toNat - 48)) / 10=dval 0 (x::r) by omega,show (dval 0 (x::r)*10+(c.toNat - 48)) % 10=c.toNat - 48 by omega,i1,ofNat_digit (by unfold isDg;omega)]
theorem canon_dec:∀ (n:Nat),canon (decDigits n)∧dval 0 (decDigits n)=n:=by
 intro n
 induction n using Nat.strongRecOn with
 | _ n ih=>
  by_cases h:n<10
  ·rw[decDigits_one h]
   have e:(UInt8.ofNat (48+n)).toNat=48+n:=by simp;omega
   refine⟨⟨by simp,fun c hc=>?_,.inl rfl⟩,?_⟩
   ·simp only[List.mem_singleton] at hc
    subst hc
    unfold isDg
    omega
   ·rw[dval_cons,dval_nil];unfold dstep;rw[e];omega
  ·obtain⟨⟨a1,a2,a3⟩,a4⟩:=ih (n / 10) (by omega)
   rw[decDigits,dif_neg h]
   have e:(UInt8.ofNat (48+n % 10)).toNat=48+n % 10:=by simp;omega
   refine⟨⟨by simp,fun c hc=>?_,.inr ?_⟩,?_⟩
   ·simp only[List.mem_append,List.mem_singleton] at hc
    rcases hc with hc | rfl
    ·exact a2 c hc
    ·unfold isDg;omega
   ·have hh:(decDigits (n / 10)++[UInt8.ofNat (48+n % 10)]).head?=(decDigits (n / 10)).head?:=by
     cases hq:decDigits (n / 10) with
     | nil=>exact absurd hq a1
     | cons x r=>rfl
    rw[hh]
    rcases a3 with a3 | a3
    ·intro h0
     have:decDigits (n / 10)=[48]:=by
      match hq:decDigits (n / 10),a3 with
      | [x],_=>
       rw[hq] at h0
       simp at h0
       rw[h0]
     rw[this] at a4
     have e0:dval 0 [48]=0:=rfl
     omega
    ·exact a3
   ·rw[dval_snoc,a4,e];omega
theorem parseM:∀ (l:List UInt8) (k acc:Nat),(∀ c,c∈l→isDg c)→l.length≤k→k≤4→acc<10 ^ (4 - k)→parseUintM (2 ^ 64 - 1) acc l=.ok (dval acc l):=by
 intro l
 induction l with
 | nil=>intro k acc _ _ _ _;rfl
 | cons c r ih=>
  intro k acc h h1 h2 h3
  have hd:=h c (by simp)
  have hd':=hd
  unfold isDg at hd'
  simp only[List.length_cons] at h1
  have h4:acc<10000:=Nat.lt_of_lt_of_le h3 (Nat.pow_le_pow_right (by omega) (by omega):10 ^ (4 - k)≤10 ^ 4)
  have h6:dstep acc c<10 ^ (4 - (k - 1)):=by
   rw[show 4 - (k - 1)=(4 - k)+1 by omega,Nat.pow_succ]
   unfold dstep
   omega
  have e:=ih (k - 1) (dstep acc c) (fun d hd=>h d (by simp[hd])) (by omega) (by omega) h6
  rw[parseUintM,if_pos hd',if_neg (by omega),if_neg (by omega),dval_cons]
  exact e
theorem dval_small:∀ (l:List UInt8) (k acc:Nat),(∀ c,c∈l→isDg c)→l.length≤k→k≤4→acc<10 ^ (4 - k)→dval acc l<10000:=by
 intro l
 induction l with
 | nil=>intro k acc _ _ _ h;exact Nat.lt_of_lt_of_le h (Nat.pow_le_pow_right (by omega) (by omega):10 ^ (4 - k)≤10 ^ 4)
 | cons c r ih=>
  intro k acc h h1 h2 h3
  have hd:=h c (by simp)
  unfold isDg at hd
  simp only[List.length_cons] at h1
  rw[dval_cons]
  refine ih (k - 1) (dstep acc c) (fun d hd=>h d (by simp[hd])) (by omega) (by omega) ?_
  rw[show 4 - (k - 1)=(4 - k)+1 by omega,Nat.pow_succ]
  unfold dstep
  omega
theorem parse_canon {l:List UInt8} (h:canon l) (h4:l.length≤4):parseIntB 64 l=.ok ((dval 0 l:Nat):Int):=by
 obtain⟨h1,h2,_⟩:=h
 have hp:=parseM l 4 0 h2 h4 (Nat.le_refl _) (by decide)
 have hs:=dval_small l 4 0 h2 h4 (Nat.le_refl _) (by decide)
 cases l with
 | nil=>exact absurd rfl h1
 | cons c r=>
  have hd:=h2 c (by simp)
  unfold isDg at hd
  have n1:¬ (c.toNat=43∨c.toNat=45):=by omega
  have n2:¬ c.toNat=45:=by omega
  have e2:parseUintB 64 (if c.toNat=43∨c.toNat=45 then r else c::r)=.ok (dval 0 (c::r)):=by
   rw[if_neg n1,parseUintB,if_neg (by simp),hp]
  unfold parseIntB
  simp only[e2]
  rw[if_neg (by omega),if_neg (by omega),if_neg n2]
theorem canon_of_itoa {l:List UInt8} {v:Int} (h0:0≤v) (h:itoa v=l):canon l∧v=((dval 0 l:Nat):Int):=by
 unfold itoa at h
 rw[if_neg (by omega)] at h
 have hc:=canon_dec v.toNat
 rw[h] at hc
 exact⟨hc.1,by rw[hc.2];omega⟩
theorem itoa_canon {l:List UInt8} (h:canon l):itoa ((dval 0 l:Nat):Int)=l:=by
 unfold itoa
 rw[if_neg (by omega),Int.toNat_natCast]
 exact dec_of_canon _ l rfl h
end Go.TM.Dw
namespace Go.TM.Dw
open Go Go.TM Go.Proofs
set_option maxRecDepth 20000
attribute [local congr] gif_cg
attribute [local simp] footOf noClash clash upsets setsHit setHits layHits layMeets setsMeet evFeet
section
variable (P:Program) (t:TypeId) (x y:Operand)
theorem pr_mul (k:IntKind) (a b:Int):pureRun P (do eqGuard .mul t x y (.int k a) (.int k b);binOp .mul t (.int k a) (.int k b))=some (.int k (k.wrap (a*b))):=by cases k<;>rfl
theorem pr_cvt2 (a:Int):pureRun Tryd.prog (convert 5 2 (.int .u8 a))=some (.int .i64 (IntKind.i64.wrap a)):=by kernel_rfl
end
def allDg (l:List UInt8):Bool:=l.all fun c=>decide (isDg c)
theorem lp34 (s:ByteArray) (hs:s.size≤4):∀ (n i acc:Nat),i+n=s.size→acc<10 ^ i→
  (allDg (s.data.toList.drop i)=true∧evLoop E (orc E) (34:Nat) (n+1) (loopOf Tryd.f34 0) ⟨49,[(0,vS s),(4,vI acc),(5,vI i)],[],2⟩=some (.exit 0,⟨49,[(0,vS s),(4,vI (dval acc (s.data.toList.drop i))),(5,vI s.size),(27,vB false)],[],2⟩))∨
  (allDg (s.data.toList.drop i)=false∧evLoop E (orc E) (34:Nat) (n+1) (loopOf Tryd.f34 0) ⟨49,[(0,vS s),(4,vI acc),(5,vI i)],[],2⟩=some (.ret,⟨49,[(2,vI 0),(3,vB false)],[],2⟩)):=by
 intro n
 induction n with
 | zero=>
  intro i acc hi ha
  have e:i=s.size:=by omega
  subst e
  have hl:s.data.toList.length=s.size:=by simp
  have ed:s.data.toList.drop s.size=[]:=List.drop_of_length_le (by omega)
  have h1:ltI (s.size:Int) (s.size:Int)=false:=ltI_f (by omega)
  refine .inl ⟨by rw[ed];rfl,?_⟩
  rw[ed,dval_nil]
  refine evLoop_out ?_ (by simp)
  simp (maxSteps:=1000000) +contextual -dsimp [Tryd.f34,h1,List.set]
 | succ n ih=>
  intro i acc hi ha
  have hi2:i<s.size:=by omega
  have hl:s.data.toList.length=s.size:=by simp
  obtain⟨j,ej⟩:∃ j,j=i+1:=⟨_,rfl⟩
  have hw:IntKind.i64.wrap ((i:Int)+1)=(j:Int):=by rw[wrapI]<;>omega
  have h1:ltI (i:Int) (s.size:Int)=true:=ltI_t (by omega)
  have p0:=pr_idx s (i:Int) (by_ s i) (by omega) (by_get hi2)
  have hb:=by_at hi2
  have ed:s.data.toList.drop i=by_ s i::s.data.toList.drop j:=by
   have hb2:=hb
   rw[List.getElem?_eq_getElem (by omega)] at hb2
   simp only[Option.some.injEq] at hb2
   rw[List.drop_eq_getElem_cons (by omega),hb2,←ej]
  rw[ed]
  generalize by_ s i=c at *
  have hac:acc<10000:=Nat.lt_of_lt_of_le ha (Nat.pow_le_pow_right (by omega) (by omega):10 ^ i≤10 ^ 4)
  have hcl:c.toNat<256:=c.toNat_lt
  by_cases hd:isDg c
  ·have hd':=hd
   unfold isDg at hd'
   have q1:ltI (c.toNat:Int) 48=false:=ltI_f (by omega)
   have q2:ltI 57 (c.toNat:Int)=false:=ltI_f (by omega)
   obtain⟨a2,ea⟩:∃ a2,a2=dstep acc c:=⟨_,rfl⟩
   have w1:IntKind.i64.wrap ((acc:Int)*10)=(acc:Int)*10:=by rw[wrapI]<;>omega
   have w2:IntKind.u8.wrap ((c.toNat:Int) - 48)=(c.toNat:Int) - 48:=by
    show ((c.toNat:Int) - 48) % 256=_
    omega
   have w3:IntKind.i64.wrap ((c.toNat:Int) - 48)=(c.toNat:Int) - 48:=by rw[wrapI]<;>omega
   have w4:IntKind.i64.wrap ((acc:Int)*10+((c.toNat:Int) - 48))=(a2:Int):=by rw[wrapI,ea]<;>unfold dstep at*<;> omega
   have ea3:a2<10 ^ j:=by
    rw[ej,Nat.pow_succ,ea]
    unfold dstep
    omega
   have ad:allDg (c::s.data.toList.drop j)=allDg (s.data.toList.drop j):=by simp[allDg,hd]
   rw[ad,dval_cons,←ea]
   rcases ih j a2 (by omega) ea3 with⟨k1,k2⟩ | ⟨k1,k2⟩
   ·refine .inl ⟨k1,evLoop_next ?_ k2⟩
    simp (maxSteps:=1000000) +contextual -dsimp [Tryd.f34,h1,p0,q1,q2,pr_mul,pr_cvt2,hw,w1,w2,w3,w4,List.set]
   ·refine .inr ⟨k1,evLoop_next ?_ k2⟩
    simp (maxSteps:=1000000) +contextual -dsimp [Tryd.f34,h1,p0,q1,q2,pr_mul,pr_cvt2,hw,w1,w2,w3,w4,List.set]
  ·have ad:allDg (c::s.data.toList.drop j)=false:=by simp[allDg,hd]
   refine .inr ⟨ad,evLoop_out ?_ (by simp)⟩
   cases q1:ltI (c.toNat:Int) 48
   ·have q2:ltI 57 (c.toNat:Int)=true:=by
     refine ltI_t ?_
     have:¬ (c.toNat:Int)<48:=by
      intro h
      rw[ltI_t h] at q1
      simp at q1
     unfold isDg at hd
     omega
    simp (maxSteps:=1000000) +contextual -dsimp [Tryd.f34,h1,p0,q1,q2,List.set]
   ·simp (maxSteps:=1000000) +contextual -dsimp [Tryd.f34,h1,p0,q1,List.set]
def num4 (l:List UInt8):Option Nat:=if l.length<1 then none else if 4<l.length then none else if 1<l.length∧l.head?=some 48 then none else if allDg l=true then some (dval 0 l) else none
theorem num4_some {l:List UInt8} {n:Nat} (h:num4 l=some n):canon l∧l.length≤4∧dval 0 l=n:=by
 unfold num4 at h
 split at h
 ·simp at h
 split at h
 ·simp at h
 split at h
 ·simp at h
 split at h
 ·rename_i h1 h2 h3 h4
  refine⟨⟨fun e=>h1 (by rw[e];simp),fun c hc=>?_,?_⟩,by omega,by simpa using h⟩
  ·have:=List.all_eq_true.1 h4 c hc
   simpa using this
  ·by_cases hl:l.length=1
   ·exact .inl hl
   ·exact .inr fun e=>h3 ⟨by omega,e⟩
 ·simp at h
theorem num4_canon {l:List UInt8} (h:canon l) (h4:l.length≤4):num4 l=some (dval 0 l):=by
 obtain⟨h1,h2,h3⟩:=h
 have h0:1≤l.length:=by
  cases l with
  | nil=>exact absurd rfl h1
  | cons a b=>simp
 unfold num4
 rw[if_neg (by omega),if_neg (by omega),if_neg,if_pos]
 ·exact List.all_eq_true.2 fun c hc=>by simpa using h2 c hc
 ·rintro⟨a,b⟩
  rcases h3 with h3 | h3
  ·omega
  ·exact h3 b
abbrev numR (o:Option Nat):Res:=match o with
 | some n=>R (.tup [vI n,vB true])
 | none=>R (.tup [vI 0,vB false])
theorem f_l14N (s:ByteArray) (hs:s.size≤1048576):fo 34 [A (vS s)]=some (numR (num4 s.data.toList)):=by
 have hl:s.data.toList.length=s.size:=by simp
 unfold num4
 rw[hl]
 by_cases h1:s.size<1
 ·rw[if_pos h1]
  have q1:ltI (s.size:Int) 1=true:=ltI_t (by omega)
  refine orc_34 1 ?_
  simp (maxSteps:=1000000) +contextual -dsimp [Tryd.f34,q1,List.set]
 rw[if_neg h1]
 have q1:ltI (s.size:Int) 1=false:=ltI_f (by omega)
 by_cases h2:4<s.size
 ·rw[if_pos h2]
  have q2:ltI 4 (s.size:Int)=true:=ltI_t (by omega)
  refine orc_34 1 ?_
  simp (maxSteps:=1000000) +contextual -dsimp [Tryd.f34,q1,q2,List.set]
 rw[if_neg h2]
 have q2:ltI 4 (s.size:Int)=false:=ltI_f (by omega)
 have p0:=pr_idx s 0 (by_ s 0) (by omega) (by_get (i:=0) (by omega))
 have hb:=by_at (s:=s) (i:=0) (by omega)
 have hh:s.data.toList.head?=some (by_ s 0):=by rw[List.head?_eq_getElem?];exact hb
 rw[hh]
 obtain hlp:=lp34 s (by omega) s.size 0 0 (by omega) (by simp)
 rw[List.drop_zero] at hlp
 simp -dsimp [Tryd.f34] at hlp
 by_cases h3:1<s.size∧some (by_ s 0)=some 48
 ·rw[if_pos h3]
  obtain⟨h3a,h3b⟩:=h3
  have q3:ltI 1 (s.size:Int)=true:=ltI_t (by omega)
  have q4:eqI ((by_ s 0).toNat:Int) 48=true:=eqI_t (by
   have:by_ s 0=48:=by simpa using h3b
   rw[this];rfl)
  refine orc_34 1 ?_
  simp (maxSteps:=1000000) +contextual -dsimp [Tryd.f34,q1,q2,q3,q4,p0,List.set]
 rw[if_neg h3]
 have q34:ltI 1 (s.size:Int)=false∨(ltI 1 (s.size:Int)=true∧eqI ((by_ s 0).toNat:Int) 48=false):=by
  by_cases h:1<s.size
  ·refine .inr ⟨ltI_t (by omega),eqI_f fun e=>h3 ⟨h,?_⟩⟩
   have:(by_ s 0).toNat=(48:UInt8).toNat:=by simpa using (Int.ofNat_inj.1 e)
   rw[UInt8.toNat_inj.1 this]
  ·exact .inl (ltI_f (by omega))
 rcases hlp with⟨ka,hlp⟩ | ⟨ka,hlp⟩
 ·rw[if_pos ka]
  refine orc_34 (s.size+1) ?_
  rcases q34 with q3 | ⟨q3,q4⟩
  ·simp (maxSteps:=1000000) +contextual -dsimp [Tryd.f34,q1,q2,q3,p0,hlp,List.set]
  ·simp (maxSteps:=1000000) +contextual -dsimp [Tryd.f34,q1,q2,q3,q4,p0,hlp,List.set]
 ·rw[if_neg (by rw[ka];simp)]
  refine orc_34 (s.size+1) ?_
  rcases q34 with q3 | ⟨q3,q4⟩
  ·simp (maxSteps:=1000000) +contextual -dsimp [Tryd.f34,q1,q2,q3,p0,hlp,List.set]
  ·simp (maxSteps:=1000000) +contextual -dsimp [Tryd.f34,q1,q2,q3,q4,p0,hlp,List.set]
abbrev nV (n:Nat):List T:=[vI n]
theorem oclean_N (l:List Nat):cleanEs (l.map nV)=true:=by
 induction l with
 | nil=>rfl
 | cons x l ih=>simp only[List.map_cons,cleanEs,ih,Bool.and_true];simp[cleanL,clean]
def nums:List ByteArray→Option (List Nat)
 | []=>some []
 | s::r=>match num4 s.data.toList with
  | none=>none
  | some n=>match nums r with
   | none=>none
   | some ns=>some (n::ns)
theorem lp29 (all:List ByteArray) (hall:all.length≤2097152) (hsz:∀ s,s∈all→s.size≤1048576):∀ (rest:List ByteArray) (i:Nat) (out:List Nat),all.drop i=rest→out.length≤i→
  (∃ ns,nums rest=some ns∧evLoop E (orc E) (29:Nat) (rest.length+1) (loopOf Tryd.f29 0) ⟨30,[(0,.sl 9 (all.map wT)),(4,.ref 4 1 [] 0 out.length),(5,vI i)],[(4,⟨1,1,false,[.own 2 (out.map nV)]⟩)],2⟩=
   some (.exit 0,⟨30,[(0,.sl 9 (all.map wT)),(4,.ref 4 1 [] 0 (out++ns).length),(5,vI (i+rest.length:Nat)),(12,vB false)],[(4,⟨1,1,false,[.own 2 ((out++ns).map nV)]⟩)],2⟩))∨
  (nums rest=none∧∃ o2:List Nat,evLoop E (orc E) (29:Nat) (rest.length+1) (loopOf Tryd.f29 0) ⟨30,[(0,.sl 9 (all.map wT)),(4,.ref 4 1 [] 0 out.length),(5,vI i)],[(4,⟨1,1,false,[.own 2 (out.map nV)]⟩)],2⟩=
   some (.ret,⟨30,[(2,.v (.slice none 0 0)),(3,vB false)],[(4,⟨1,1,false,[.own 2 (o2.map nV)]⟩)],2⟩))
 | [],i,out,h,ho=>by
  have hge:all.length≤i:=by simpa using h
  have hlt:ltI (i:Int) (all.length:Int)=false:=ltI_f (by omega)
  refine .inl ⟨[],rfl,?_⟩
  rw[loop_eq]
  simp +contextual -dsimp [Tryd.f29,hlt]
 | c::rest,i,out,h,ho=>by
  obtain⟨hi,hc,hr⟩:=drop_cons h
  have hlt:ltI (i:Int) (all.length:Int)=true:=ltI_t (by omega)
  have hw:IntKind.i64.wrap ((i:Int)+1)=((i+1:Nat):Int):=by rw[wrapI]<;>omega
  have g:=f_l14N c (hsz c (by rw[←hc];exact List.getElem_mem hi))
  have he:i+1+rest.length=i+(rest.length+1):=by omega
  have hm:out.length+1≤maxElems:=by unfold maxElems;omega
  simp only[nums]
  cases q:num4 c.data.toList with
  | none=>
   rw[q] at g
   simp only[numR] at g
   refine .inr ⟨rfl,out,evLoop_out ?_ (by simp)⟩
   simp (maxSteps:=1000000) +contextual -dsimp [Tryd.f29,hlt,hi,hc,hw,g,List.set]
  | some n=>
   rw[q] at g
   simp only[numR] at g
   have step:∀ {r},evLoop E (orc E) (29:Nat) (rest.length+1) (loopOf Tryd.f29 0) ⟨30,[(0,.sl 9 (all.map wT)),(4,.ref 4 1 [] 0 (out++[n]).length),(5,vI (i+1:Nat))],[(4,⟨1,1,false,[.own 2 ((out++[n]).map nV)]⟩)],2⟩=r→
     evLoop E (orc E) (29:Nat) (rest.length+1+1) (loopOf Tryd.f29 0) ⟨30,[(0,.sl 9 (all.map wT)),(4,.ref 4 1 [] 0 out.length),(5,vI i)],[(4,⟨1,1,false,[.own 2 (out.map nV)]⟩)],2⟩=r:=fun ih=>by
    refine evLoop_next ?_ ih
    simp (maxSteps:=1000000) +contextual -dsimp [Tryd.f29,hlt,hi,hc,hw,g,hm,List.set]
   rcases lp29 all hall hsz rest (i+1) (out++[n]) hr (by simp;omega) with⟨ns,e,ih⟩ | ⟨e,o2,ih⟩
   ·refine .inl ⟨n::ns,by rw[e],?_⟩
    rw[he,List.append_assoc] at ih
    exact step ih
   ·exact .inr ⟨by rw[e],o2,step ih⟩
abbrev numsR (o:Option (List Nat)):Res:=match o with
 | some ns=>R (.tup [.own 2 (ns.map nV),vB true])
 | none=>R (.tup [.own 2 [],vB false])
theorem f_l14Ns (l:List ByteArray) (hl:l.length≤2097152) (hsz:∀ s,s∈l→s.size≤1048576):fo 29 [A (.sl 9 (l.map wT))]=some (numsR (nums l)):=by
 rcases lp29 l hl hsz l 0 [] rfl (by simp) with⟨ns,e,hlp⟩ | ⟨e,o2,hlp⟩
 ·rw[e]
  rw[List.nil_append] at hlp
  have hc:=oclean_N ns
  simp -dsimp [Tryd.f29] at hlp
  refine orc_29 (l.length+1) ?_
  simp (maxSteps:=1000000) +contextual -dsimp [Tryd.f29,hlp,hc,List.set]
 ·rw[e]
  have hc:=oclean_N o2
  simp -dsimp [Tryd.f29] at hlp
  refine orc_29 (l.length+1) ?_
  simp (maxSteps:=1000000) +contextual -dsimp [Tryd.f29,hlp,hc,List.set]
def sStart:ByteArray:=⟨#[115,116,97,114,116]⟩
def sTick:ByteArray:=⟨#[116,105,99,107]⟩
def sMail:ByteArray:=⟨#[109,97,105,108]⟩
def sDrop:ByteArray:=⟨#[100,114,111,112]⟩
def sClaim:ByteArray:=⟨#[99,108,97,105,109]⟩
def sFree:ByteArray:=⟨#[102,114,101,101]⟩
def sDone:ByteArray:=⟨#[100,111,110,101]⟩
def instW (w:ByteArray) (ns:List Nat):Int×Int:=
 if (eqS w sStart=true∧ns.length=2)∨(eqS w sTick=true∧ns.length=1) then (0,4)
 else if (eqS w sMail=true∧ns.length=2)∨(eqS w sDrop=true∧ns.length=1) then ((ns.getD 0 0:Nat),0)
 else if ((eqS w sClaim=true∨eqS w sFree=true)∧ns.length=3)∨(eqS w sDone=true∧ns.length=4) then ((ns.getD 1 0:Nat),0)
 else (0,5)
def instM (l:List ByteArray):Int×Int:=match l with
 | []=>(0,5)
 | w::r=>match nums r with
  | none=>(0,5)
  | some ns=>instW w ns
theorem spl_size:∀ (l:List UInt8) (p:List UInt8),p∈spl l→p.length≤l.length
 | [],p,h=>by simp only[spl,List.mem_singleton] at h;subst h;simp
 | c::r,p,h=>by
  unfold spl at h
  split at h
  ·simp only[List.mem_cons] at h
   rcases h with rfl | h
   ·simp
   ·have:=spl_size r p h
    simp only[List.length_cons];omega
  ·split at h
   ·rename_i x t e
    simp only[List.mem_cons] at h
    rcases h with rfl | h
    ·have:=spl_size r x (by rw[e];simp)
     simp only[List.length_cons];omega
    ·have:=spl_size r p (by rw[e];simp[h])
     simp only[List.length_cons];omega
   ·simp only[List.mem_singleton] at h
    subst h;simp
theorem wds_size (s:ByteArray) (x:ByteArray) (h:x∈wds s):x.size≤s.size:=by
 unfold wds wdl at h
 obtain⟨p,hp,rfl⟩:=List.mem_map.1 h
 have h1:=spl_size _ p (List.mem_filter.1 hp).1
 have h2:s.data.toList.length=s.size:=by simp
 show p.toArray.size≤s.size
 simp only[List.size_toArray]
 omega
theorem osealed_N (l:List Nat):sealEs (l.map nV)=l.map nV:=sealEs_map (f:=nV) (g:=nV) (fun a=>by simp[sealL,seal_]) l
theorem eqS_ne {a b:ByteArray} (h:a≠b):eqS a b=false:=by
 unfold eqS
 rw[Lib.toList_data,Lib.toList_data]
 simp only[beq_eq_false_iff_ne,ne_eq]
 intro e
 apply h
 rw[←ofL_toList a,←ofL_toList b,e]
def wb (w:ByteArray) (b1 b2 b3 b4 b5 b6 b7:Bool):Prop:=eqS w sStart=b1∧eqS w sTick=b2∧eqS w sMail=b3∧eqS w sDrop=b4∧eqS w sClaim=b5∧eqS w sFree=b6∧eqS w sDone=b7
theorem wb_cases (w:ByteArray):wb w true false false false false false false∨wb w false true false false false false false∨wb w false false true false false false false∨wb w false false false true false false false∨wb w false false false false true false false∨wb w false false false false false true false∨wb w false false false false false false true∨wb w false false false false false false false:=by
 unfold wb
 by_cases e1:w=sStart
 ·subst e1;exact .inl ⟨eqS_self _,eqS_ne (by decide),eqS_ne (by decide),eqS_ne (by decide),eqS_ne (by decide),eqS_ne (by decide),eqS_ne (by decide)⟩
 by_cases e2:w=sTick
 ·subst e2;exact .inr (.inl ⟨eqS_ne (by decide),eqS_self _,eqS_ne (by decide),eqS_ne (by decide),eqS_ne (by decide),eqS_ne (by decide),eqS_ne (by decide)⟩)
 by_cases e3:w=sMail
 ·subst e3;exact .inr (.inr (.inl ⟨eqS_ne (by decide),eqS_ne (by decide),eqS_self _,eqS_ne (by decide),eqS_ne (by decide),eqS_ne (by decide),eqS_ne (by decide)⟩))
 by_cases e4:w=sDrop
 ·subst e4;exact .inr (.inr (.inr (.inl ⟨eqS_ne (by decide),eqS_ne (by decide),eqS_ne (by decide),eqS_self _,eqS_ne (by decide),eqS_ne (by decide),eqS_ne (by decide)⟩)))
 by_cases e5:w=sClaim
 ·subst e5;exact .inr (.inr (.inr (.inr (.inl ⟨eqS_ne (by decide),eqS_ne (by decide),eqS_ne (by decide),eqS_ne (by decide),eqS_self _,eqS_ne (by decide),eqS_ne (by decide)⟩))))
 by_cases e6:w=sFree
 ·subst e6;exact .inr (.inr (.inr (.inr (.inr (.inl ⟨eqS_ne (by decide),eqS_ne (by decide),eqS_ne (by decide),eqS_ne (by decide),eqS_ne (by decide),eqS_self _,eqS_ne (by decide)⟩)))))
 by_cases e7:w=sDone
 ·subst e7;exact .inr (.inr (.inr (.inr (.inr (.inr (.inl ⟨eqS_ne (by decide),eqS_ne (by decide),eqS_ne (by decide),eqS_ne (by decide),eqS_ne (by decide),eqS_ne (by decide),eqS_self _⟩))))))
 exact .inr (.inr (.inr (.inr (.inr (.inr (.inr ⟨eqS_ne e1,eqS_ne e2,eqS_ne e3,eqS_ne e4,eqS_ne e5,eqS_ne e6,eqS_ne e7⟩))))))
theorem li_0 (s w:ByteArray) (r:List ByteArray) (ns:List Nat) (g1:fo 20 [A (vS s)]=some (R (.own 9 ((w::r).map wT)))) (g2:fo 29 [A (.sl 9 (r.map wT))]=some (R (.tup [.own 2 (ns.map nV),vB true]))) (hb:wb w true false false false false false false):fo 23 [A (vS s)]=some (R (.tup [vI (instW w ns).1,vI (instW w ns).2])):=by
 have q0:eqI ((r.length:Int)+1) 0=false:=eqI_f (by omega)
 have hs2:=osealed_W r
 have k1:(1:Int)≤(r.length:Int)+1:=by omega
 have k2:((r.length:Int)+1).toNat - 1=r.length:=by omega
 have k3:(r.map wT).take r.length=r.map wT:=List.take_of_length_le (by simp)
 have hcn:=oclean_N ns
 have hs3:=osealed_N ns
 obtain⟨h1,h2,h3,h4,h5,h6,h7⟩:=hb
 unfold instW
 simp only[h1,h2,h3,h4,h5,h6,h7]
 simp only[sStart,sTick,sMail,sDrop,sClaim,sFree,sDone] at h1 h2 h3 h4 h5 h6 h7
 refine orc_23 1 ?_
 by_cases hn:ns.length=2
 ·have e:∃ a b,ns=[a,b]:=by
   match ns,hn with
   | [a,b],_=>exact⟨a,b,rfl⟩
  obtain⟨a,b,rfl⟩:=e
  have hq:eqI 2 2=true:=rfl
  simp (maxSteps:=1000000) +contextual -dsimp [Tryd.f23,g1,g2,q0,hs2,k1,k2,k3,h1,h2,h3,h4,h5,h6,h7,hq,List.set]
 ·have hq:eqI (ns.length:Int) 2=false:=eqI_f (by omega)
  simp (maxSteps:=1000000) +contextual -dsimp [Tryd.f23,g1,g2,q0,hs2,hs3,k1,k2,k3,h1,h2,h3,h4,h5,h6,h7,hq,hn,List.set]
theorem li_1 (s w:ByteArray) (r:List ByteArray) (ns:List Nat) (g1:fo 20 [A (vS s)]=some (R (.own 9 ((w::r).map wT)))) (g2:fo 29 [A (.sl 9 (r.map wT))]=some (R (.tup [.own 2 (ns.map nV),vB true]))) (hb:wb w false true false false false false false):fo 23 [A (vS s)]=some (R (.tup [vI (instW w ns).1,vI (instW w ns).2])):=by
 have q0:eqI ((r.length:Int)+1) 0=false:=eqI_f (by omega)
 have hs2:=osealed_W r
 have k1:(1:Int)≤(r.length:Int)+1:=by omega
 have k2:((r.length:Int)+1).toNat - 1=r.length:=by omega
 have k3:(r.map wT).take r.length=r.map wT:=List.take_of_length_le (by simp)
 have hcn:=oclean_N ns
 have hs3:=osealed_N ns
 obtain⟨h1,h2,h3,h4,h5,h6,h7⟩:=hb
 unfold instW
 simp only[h1,h2,h3,h4,h5,h6,h7]
 simp only[sStart,sTick,sMail,sDrop,sClaim,sFree,sDone] at h1 h2 h3 h4 h5 h6 h7
 refine orc_23 1 ?_
 by_cases hn:ns.length=1
 ·have e:∃ a,ns=[a]:=by
   match ns,hn with
   | [a],_=>exact⟨a,rfl⟩
  obtain⟨a,rfl⟩:=e
  have hq:eqI 1 1=true:=rfl
  simp (maxSteps:=1000000) +contextual -dsimp [Tryd.f23,g1,g2,q0,hs2,k1,k2,k3,h1,h2,h3,h4,h5,h6,h7,hq,List.set]
 ·have hq:eqI (ns.length:Int) 1=false:=eqI_f (by omega)
  simp (maxSteps:=1000000) +contextual -dsimp [Tryd.f23,g1,g2,q0,hs2,hs3,k1,k2,k3,h1,h2,h3,h4,h5,h6,h7,hq,hn,List.set]
theorem li_2 (s w:ByteArray) (r:List ByteArray) (ns:List Nat) (g1:fo 20 [A (vS s)]=some (R (.own 9 ((w::r).map wT)))) (g2:fo 29 [A (.sl 9 (r.map wT))]=some (R (.tup [.own 2 (ns.map nV),vB true]))) (hb:wb w false false true false false false false):fo 23 [A (vS s)]=some (R (.tup [vI (instW w ns).1,vI (instW w ns).2])):=by
 have q0:eqI ((r.length:Int)+1) 0=false:=eqI_f (by omega)
 have hs2:=osealed_W r
 have k1:(1:Int)≤(r.length:Int)+1:=by omega
 have k2:((r.length:Int)+1).toNat - 1=r.length:=by omega
 have k3:(r.map wT).take r.length=r.map wT:=List.take_of_length_le (by simp)
 have hcn:=oclean_N ns
 have hs3:=osealed_N ns
 obtain⟨h1,h2,h3,h4,h5,h6,h7⟩:=hb
 unfold instW
 simp only[h1,h2,h3,h4,h5,h6,h7]
 simp only[sStart,sTick,sMail,sDrop,sClaim,sFree,sDone] at h1 h2 h3 h4 h5 h6 h7
 refine orc_23 1 ?_
 by_cases hn:ns.length=2
 ·have e:∃ a b,ns=[a,b]:=by
   match ns,hn with
   | [a,b],_=>exact⟨a,b,rfl⟩
  obtain⟨a,b,rfl⟩:=e
  have hq:eqI 2 2=true:=rfl
  simp (maxSteps:=1000000) +contextual -dsimp [Tryd.f23,g1,g2,q0,hs2,k1,k2,k3,h1,h2,h3,h4,h5,h6,h7,hq,List.set]
 ·have hq:eqI (ns.length:Int) 2=false:=eqI_f (by omega)
  simp (maxSteps:=1000000) +contextual -dsimp [Tryd.f23,g1,g2,q0,hs2,hs3,k1,k2,k3,h1,h2,h3,h4,h5,h6,h7,hq,hn,List.set]
theorem li_3 (s w:ByteArray) (r:List ByteArray) (ns:List Nat) (g1:fo 20 [A (vS s)]=some (R (.own 9 ((w::r).map wT)))) (g2:fo 29 [A (.sl 9 (r.map wT))]=some (R (.tup [.own 2 (ns.map nV),vB true]))) (hb:wb w false false false true false false false):fo 23 [A (vS s)]=some (R (.tup [vI (instW w ns).1,vI (instW w ns).2])):=by
 have q0:eqI ((r.length:Int)+1) 0=false:=eqI_f (by omega)
 have hs2:=osealed_W r
 have k1:(1:Int)≤(r.length:Int)+1:=by omega
 have k2:((r.length:Int)+1).toNat - 1=r.length:=by omega
 have k3:(r.map wT).take r.length=r.map wT:=List.take_of_length_le (by simp)
 have hcn:=oclean_N ns
 have hs3:=osealed_N ns
 obtain⟨h1,h2,h3,h4,h5,h6,h7⟩:=hb
 unfold instW
 simp only[h1,h2,h3,h4,h5,h6,h7]
 simp only[sStart,sTick,sMail,sDrop,sClaim,sFree,sDone] at h1 h2 h3 h4 h5 h6 h7
 refine orc_23 1 ?_
 by_cases hn:ns.length=1
 ·have e:∃ a,ns=[a]:=by
   match ns,hn with
   | [a],_=>exact⟨a,rfl⟩
  obtain⟨a,rfl⟩:=e
  have hq:eqI 1 1=true:=rfl
  simp (maxSteps:=1000000) +contextual -dsimp [Tryd.f23,g1,g2,q0,hs2,k1,k2,k3,h1,h2,h3,h4,h5,h6,h7,hq,List.set]
 ·have hq:eqI (ns.length:Int) 1=false:=eqI_f (by omega)
  simp (maxSteps:=1000000) +contextual -dsimp [Tryd.f23,g1,g2,q0,hs2,hs3,k1,k2,k3,h1,h2,h3,h4,h5,h6,h7,hq,hn,List.set]
theorem li_4 (s w:ByteArray) (r:List ByteArray) (ns:List Nat) (g1:fo 20 [A (vS s)]=some (R (.own 9 ((w::r).map wT)))) (g2:fo 29 [A (.sl 9 (r.map wT))]=some (R (.tup [.own 2 (ns.map nV),vB true]))) (hb:wb w false false false false true false false):fo 23 [A (vS s)]=some (R (.tup [vI (instW w ns).1,vI (instW w ns).2])):=by
 have q0:eqI ((r.length:Int)+1) 0=false:=eqI_f (by omega)
 have hs2:=osealed_W r
 have k1:(1:Int)≤(r.length:Int)+1:=by omega
 have k2:((r.length:Int)+1).toNat - 1=r.length:=by omega
 have k3:(r.map wT).take r.length=r.map wT:=List.take_of_length_le (by simp)
 have hcn:=oclean_N ns
 have hs3:=osealed_N ns
 obtain⟨h1,h2,h3,h4,h5,h6,h7⟩:=hb
 unfold instW
 simp only[h1,h2,h3,h4,h5,h6,h7]
 simp only[sStart,sTick,sMail,sDrop,sClaim,sFree,sDone] at h1 h2 h3 h4 h5 h6 h7
 refine orc_23 1 ?_
 by_cases hn:ns.length=3
 ·have e:∃ a b c,ns=[a,b,c]:=by
   match ns,hn with
   | [a,b,c],_=>exact⟨a,b,c,rfl⟩
  obtain⟨a,b,c,rfl⟩:=e
  have hq:eqI 3 3=true:=rfl
  simp (maxSteps:=1000000) +contextual -dsimp [Tryd.f23,g1,g2,q0,hs2,k1,k2,k3,h1,h2,h3,h4,h5,h6,h7,hq,List.set]
 ·have hq:eqI (ns.length:Int) 3=false:=eqI_f (by omega)
  simp (maxSteps:=1000000) +contextual -dsimp [Tryd.f23,g1,g2,q0,hs2,hs3,k1,k2,k3,h1,h2,h3,h4,h5,h6,h7,hq,hn,List.set]
theorem li_5 (s w:ByteArray) (r:List ByteArray) (ns:List Nat) (g1:fo 20 [A (vS s)]=some (R (.own 9 ((w::r).map wT)))) (g2:fo 29 [A (.sl 9 (r.map wT))]=some (R (.tup [.own 2 (ns.map nV),vB true]))) (hb:wb w false false false false false true false):fo 23 [A (vS s)]=some (R (.tup [vI (instW w ns).1,vI (instW w ns).2])):=by
 have q0:eqI ((r.length:Int)+1) 0=false:=eqI_f (by omega)
 have hs2:=osealed_W r
 have k1:(1:Int)≤(r.length:Int)+1:=by omega
 have k2:((r.length:Int)+1).toNat - 1=r.length:=by omega
 have k3:(r.map wT).take r.length=r.map wT:=List.take_of_length_le (by simp)
 have hcn:=oclean_N ns
 have hs3:=osealed_N ns
 obtain⟨h1,h2,h3,h4,h5,h6,h7⟩:=hb
 unfold instW
 simp only[h1,h2,h3,h4,h5,h6,h7]
 simp only[sStart,sTick,sMail,sDrop,sClaim,sFree,sDone] at h1 h2 h3 h4 h5 h6 h7
 refine orc_23 1 ?_
 by_cases hn:ns.length=3
 ·have e:∃ a b c,ns=[a,b,c]:=by
   match ns,hn with
   | [a,b,c],_=>exact⟨a,b,c,rfl⟩
  obtain⟨a,b,c,rfl⟩:=e
  have hq:eqI 3 3=true:=rfl
  simp (maxSteps:=1000000) +contextual -dsimp [Tryd.f23,g1,g2,q0,hs2,k1,k2,k3,h1,h2,h3,h4,h5,h6,h7,hq,List.set]
 ·have hq:eqI (ns.length:Int) 3=false:=eqI_f (by omega)
  simp (maxSteps:=1000000) +contextual -dsimp [Tryd.f23,g1,g2,q0,hs2,hs3,k1,k2,k3,h1,h2,h3,h4,h5,h6,h7,hq,hn,List.set]
theorem li_6 (s w:ByteArray) (r:List ByteArray) (ns:List Nat) (g1:fo 20 [A (vS s)]=some (R (.own 9 ((w::r).map wT)))) (g2:fo 29 [A (.sl 9 (r.map wT))]=some (R (.tup [.own 2 (ns.map nV),vB true]))) (hb:wb w false false false false false false true):fo 23 [A (vS s)]=some (R (.tup [vI (instW w ns).1,vI (instW w ns).2])):=by
 have q0:eqI ((r.length:Int)+1) 0=false:=eqI_f (by omega)
 have hs2:=osealed_W r
 have k1:(1:Int)≤(r.length:Int)+1:=by omega
 have k2:((r.length:Int)+1).toNat - 1=r.length:=by omega
 have k3:(r.map wT).take r.length=r.map wT:=List.take_of_length_le (by simp)
 have hcn:=oclean_N ns
 have hs3:=osealed_N ns
 obtain⟨h1,h2,h3,h4,h5,h6,h7⟩:=hb
 unfold instW
 simp only[h1,h2,h3,h4,h5,h6,h7]
 simp only[sStart,sTick,sMail,sDrop,sClaim,sFree,sDone] at h1 h2 h3 h4 h5 h6 h7
 refine orc_23 1 ?_
 by_cases hn:ns.length=4
 ·have e:∃ a b c d,ns=[a,b,c,d]:=by
   match ns,hn with
   | [a,b,c,d],_=>exact⟨a,b,c,d,rfl⟩
  obtain⟨a,b,c,d,rfl⟩:=e
  have hq:eqI 4 4=true:=rfl
  simp (maxSteps:=1000000) +contextual -dsimp [Tryd.f23,g1,g2,q0,hs2,k1,k2,k3,h1,h2,h3,h4,h5,h6,h7,hq,List.set]
 ·have hq:eqI (ns.length:Int) 4=false:=eqI_f (by omega)
  simp (maxSteps:=1000000) +contextual -dsimp [Tryd.f23,g1,g2,q0,hs2,hs3,k1,k2,k3,h1,h2,h3,h4,h5,h6,h7,hq,hn,List.set]
theorem li_7 (s w:ByteArray) (r:List ByteArray) (ns:List Nat) (g1:fo 20 [A (vS s)]=some (R (.own 9 ((w::r).map wT)))) (g2:fo 29 [A (.sl 9 (r.map wT))]=some (R (.tup [.own 2 (ns.map nV),vB true]))) (hb:wb w false false false false false false false):fo 23 [A (vS s)]=some (R (.tup [vI (instW w ns).1,vI (instW w ns).2])):=by
 have q0:eqI ((r.length:Int)+1) 0=false:=eqI_f (by omega)
 have hs2:=osealed_W r
 have k1:(1:Int)≤(r.length:Int)+1:=by omega
 have k2:((r.length:Int)+1).toNat - 1=r.length:=by omega
 have k3:(r.map wT).take r.length=r.map wT:=List.take_of_length_le (by simp)
 have hcn:=oclean_N ns
 have hs3:=osealed_N ns
 obtain⟨h1,h2,h3,h4,h5,h6,h7⟩:=hb
 unfold instW
 simp only[h1,h2,h3,h4,h5,h6,h7]
 simp only[sStart,sTick,sMail,sDrop,sClaim,sFree,sDone] at h1 h2 h3 h4 h5 h6 h7
 refine orc_23 1 ?_
 simp (maxSteps:=1000000) +contextual -dsimp [Tryd.f23,g1,g2,q0,hs2,k1,k2,k3,h1,h2,h3,h4,h5,h6,h7,hcn,List.set]
theorem f_l15I (s:ByteArray) (hs:s.size≤1048576):fo 23 [A (vS s)]=some (R (.tup [vI (instM (wds s)).1,vI (instM (wds s)).2])):=by
 have g1:=f_l14W s hs
 have hl:=wds_len s
 have hsz:∀ x,x∈wds s→x.size≤1048576:=fun x hx=>Nat.le_trans (wds_size s x hx) hs
 generalize wds s=l at *
 have hseal:=osealed_W l
 cases l with
 | nil=>
  have q0:eqI 0 0=true:=rfl
  refine orc_23 1 ?_
  simp (maxSteps:=1000000) +contextual -dsimp [Tryd.f23,g1,instM,q0,List.set]
 | cons w r=>
  simp only[List.length_cons] at hl
  have g2:=f_l14Ns r (by omega) (fun x hx=>hsz x (by simp[hx]))
  have q0:eqI ((r.length:Int)+1) 0=false:=eqI_f (by omega)
  have hs2:=osealed_W r
  have k1:(1:Int)≤(r.length:Int)+1:=by omega
  have k2:((r.length:Int)+1).toNat - 1=r.length:=by omega
  have k3:(r.map wT).take r.length=r.map wT:=List.take_of_length_le (by simp)
  clear hsz hl hseal
  simp only[instM]
  cases hn:nums r with
  | none=>
   rw[hn] at g2
   simp only[numsR] at g2
   refine orc_23 1 ?_
   simp (maxSteps:=1000000) +contextual -dsimp [Tryd.f23,g1,g2,q0,hs2,k1,k2,k3,List.set]
  | some ns=>
   rw[hn] at g2
   simp only[numsR] at g2
   rcases wb_cases w with h | h | h | h | h | h | h | h
   ·exact li_0 s w r ns g1 g2 h
   ·exact li_1 s w r ns g1 g2 h
   ·exact li_2 s w r ns g1 g2 h
   ·exact li_3 s w r ns g1 g2 h
   ·exact li_4 s w r ns g1 g2 h
   ·exact li_5 s w r ns g1 g2 h
   ·exact li_6 s w r ns g1 g2 h
   ·exact li_7 s w r ns g1 g2 h
theorem num_some {s:ByteArray} {n:Nat} (h:num4 s.data.toList=some n):numB s 4=true∧numV s=n:=by
 obtain⟨h1,h2,h3⟩:=num4_some h
 have hp:=parse_canon h1 h2
 have hi:=itoa_canon h1
 rw[h3] at hp hi
 have hl:s.data.toList.length=s.size:=by simp
 unfold numB numV
 rw[hp]
 refine⟨?_,rfl⟩
 simp only[Bool.and_eq_true,decide_eq_true_eq]
 refine⟨⟨by omega,?_⟩,by omega⟩
 unfold decB
 rw[Lib.toList_data,Lib.toList_data,hi]
theorem num_none {s:ByteArray} (h:num4 s.data.toList=none):numB s 4=false:=by
 have hl:s.data.toList.length=s.size:=by simp
 cases hb:numB s 4 with
 | false=>rfl
 | true=>
  unfold numB at hb
  split at hb
  ·rename_i v hp
   simp only[Bool.and_eq_true,decide_eq_true_eq] at hb
   obtain⟨⟨h1,h2⟩,h3⟩:=hb
   unfold decB at h2
   rw[Lib.toList_data,Lib.toList_data] at h2
   obtain⟨c1,_⟩:=canon_of_itoa h1 h2
   rw[num4_canon c1 (by omega)] at h
   cases h
  ·cases hb
theorem pureRun_bind {α β:Type} {P:Program} (s:Sem α) (f:α→Sem β):pureRun P (s >>= f)=(pureRun P s).bind (fun a=>pureRun P (f a)):=by
 show pureRun P (Sem.bind s f)=_
 induction s<;>simp_all [Sem.bind,pureRun]
theorem eqB_S (a b:ByteArray):(a==b)=eqS a b:=by
 unfold eqS
 rw[Lib.toList_data,Lib.toList_data]
 show (a.data==b.data)=_
 rw[Bool.eq_iff_iff]
 simp
theorem pr_eqlF (x y:Operand) (a b:ByteArray) (m n:Int):pureRun Tryd.prog (do eqGuard .eql 52 x y (.agg #[.string a,.int .i64 m]) (.agg #[.string b,.int .i64 n]);binOp .eql 52 (.agg #[.string a,.int .i64 m]) (.agg #[.string b,.int .i64 n]))=some (.bool (andB (eqS a b) (eqI m n))):=by
 have h1:pureRun Tryd.prog (eqGuard .eql 52 x y (.agg #[.string a,.int .i64 m]) (.agg #[.string b,.int .i64 n]))=some ():=by kernel_rfl
 have hS:Tryd.prog.underlying 52=some (.struct (Tryd.prog.fieldsOf 52)):=by kernel_rfl
 have hp:Tryd.prog.stoodInHeld 52=false:=by kernel_rfl
 have u9:=Tryd.underlying9
 have u3:=Tryd.underlying3
 rw[pureRun_bind,h1]
 simp only[Option.bind_some,binOp,pureRun_bind,Op.equal,Op.maxDepth]
 have e:pureRun Tryd.prog (Op.equalIn 10000 52 (.agg #[.string a,.int .i64 m]) (.agg #[.string b,.int .i64 n]))=some (andB (eqS a b) (eqI m n)):=by
  have p1:∀ xs ys,pureRun Tryd.prog (part 9 #[.string xs,.int .i64 ys] 0)=some (.string xs):=fun _ _=>by kernel_rfl
  have p2:∀ xs ys,pureRun Tryd.prog (part 3 #[.string xs,.int .i64 ys] 1)=some (.int .i64 ys):=fun _ _=>by kernel_rfl
  have q1:∀ d a b,pureRun Tryd.prog (Op.equalIn (d+1) 9 (.string a) (.string b))=some (a==b):=fun _ _ _=>by kernel_rfl
  have q2:∀ d a b,pureRun Tryd.prog (Op.equalIn (d+1) 3 (.int .i64 a) (.int .i64 b))=some (a==b):=fun _ _ _=>by kernel_rfl
  rw[show (10000:Nat)=9999+1 from rfl,Op.equalIn]
  have hu:pureRun Tryd.prog (underlying 52)=some (.struct (Tryd.prog.fieldsOf 52)):=by kernel_rfl
  have hpr:pureRun Tryd.prog program=some Tryd.prog:=rfl
  have hp':Tryd.prog.stoodInHeld (52:Nat)=false:=hp
  have hr:∀ {α:Type} (a:α),pureRun Tryd.prog (pure a:Sem α)=some a:=fun _=>rfl
  simp only[pureRun_bind,hu,hpr,hp,Option.bind_some,hr,Bool.false_eq_true,if_false]
  simp only[Program.fieldsOf,Tryd.underlying52,List.forIn_toArray,List.forIn_cons,List.forIn_nil]
  have n1 : ("word" ≠ "_") := by decide
  have n2 : ("many" ≠ "_") := by decide
  have p1:∀ xs ys,pureRun Tryd.prog (part 9 #[.string xs,.int .i64 ys] 0)=some (.string xs):=fun _ _=>by kernel_rfl
  simp only[n1,n2,ne_eq,not_false_eq_true,if_true,pureRun_bind,p1,p2,Option.bind_some,show (9999:Nat)=9998+1 from rfl,q1,q2]
  rw[eqB_S]
  cases eqS a b<;>simp only[Bool.not_true,Bool.not_false,Bool.false_eq_true,if_false,if_true,hr,Option.bind_some]
  ·rfl
  ·simp only[pureRun_bind,p1,p2,Option.bind_some,q1,q2]
   show _=some (m==n)
   cases m==n<;>rfl
 rw[e];rfl
end Go.TM.Dw
