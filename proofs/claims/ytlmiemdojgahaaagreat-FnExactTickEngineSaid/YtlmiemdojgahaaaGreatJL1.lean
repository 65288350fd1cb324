/- What functions of the program come to, by the machine. -/
import Derived.Test.YtlmiemdojgahaaaGreatJE
set_option linter.unusedSimpArgs false
set_option linter.unusedVariables false
set_option maxHeartbeats 1000000
namespace Go.TM.Ft
open Go Go.TM Go.Proofs Go.Proofs.Tryz
set_option maxRecDepth 20000
abbrev vI (n:Int):T:=.v (.int .i64 n)
abbrev vB (b:Bool):T:=.v (.bool b)
abbrev vS (s:ByteArray):T:=.v (.string s)
abbrev A (t:T):Arg:=⟨t,none⟩
abbrev R (t:T):Res:=⟨t,[],true⟩
def eqI (a b:Int):Bool:=a==b
def leI (a b:Int):Bool:=decide (a≤b)
def ltI (a b:Int):Bool:=decide (a < b)
def eqB (a b:Bool):Bool:=a==b
def eqS (a b:ByteArray):Bool:=a.toList==b.toList
theorem h4z {a b:Int} (h:a≤b):leI a b=true:=by simp [leI,h]
theorem C5 {a b:Int} (h:a < b):ltI a b=true:=by simp [ltI,h]
theorem B7 {a b:Int} (h:¬ a < b):ltI a b=false:=by simp [ltI]; omega
theorem a9y (a:ByteArray):eqS a a=true:=by simp [eqS]
section pr
variable (P:Program) (t:TypeId) (x y:Operand)
theorem h3j (k:IntKind) (a b:Int):D5 P (do eqGuard .leq t x y (.int k a) (.int k b); binOp .leq t (.int k a) (.int k b))=some (.bool (leI a b)):=by cases k <;> rfl
theorem h3k (k:IntKind) (a b:Int):D5 P (do eqGuard .lss t x y (.int k a) (.int k b); binOp .lss t (.int k a) (.int k b))=some (.bool (ltI a b)):=by cases k <;> rfl
theorem h3l (k:IntKind) (a b:Int):D5 P (do eqGuard .gtr t x y (.int k a) (.int k b); binOp .gtr t (.int k a) (.int k b))=some (.bool (ltI b a)):=by cases k <;> rfl
theorem h3m (k:IntKind) (a b:Int):D5 P (do eqGuard .geq t x y (.int k a) (.int k b); binOp .geq t (.int k a) (.int k b))=some (.bool (leI b a)):=by cases k <;> rfl
theorem h3n (k:IntKind) (a b:Int):D5 P (do eqGuard .eql t x y (.int k a) (.int k b); binOp .eql t (.int k a) (.int k b))=some (.bool (eqI a b)):=by cases k <;> rfl
theorem h3o (k:IntKind) (a b:Int):D5 P (do eqGuard .neq t x y (.int k a) (.int k b); binOp .neq t (.int k a) (.int k b))=some (.bool (A0 (eqI a b))):=by cases k <;> rfl
theorem h3p (k:IntKind) (a b:Int):D5 P (do eqGuard .add t x y (.int k a) (.int k b); binOp .add t (.int k a) (.int k b))=some (.int k (k.wrap (a+b))):=by cases k <;> rfl
theorem h3q (k:IntKind) (a b:Int):D5 P (do eqGuard .sub t x y (.int k a) (.int k b); binOp .sub t (.int k a) (.int k b))=some (.int k (k.wrap (a - b))):=by cases k <;> rfl
theorem h1b (a b:Bool):D5 Tryz.prog (do eqGuard .eql 4 x y (.bool a) (.bool b); binOp .eql 4 (.bool a) (.bool b))=some (.bool (eqB a b)):=by kernel_rfl
theorem h1c (a b:Bool):D5 Tryz.prog (do eqGuard .neq 4 x y (.bool a) (.bool b); binOp .neq 4 (.bool a) (.bool b))=some (.bool (A0 (eqB a b))):=by kernel_rfl
theorem h1d (a b:ByteArray):D5 P (do eqGuard .eql t x y (.string a) (.string b); binOp .eql t (.string a) (.string b))=some (.bool (eqS a b)):=rfl
theorem h1e (a b:ByteArray):D5 P (do eqGuard .neq t x y (.string a) (.string b); binOp .neq t (.string a) (.string b))=some (.bool (A0 (eqS a b))):=rfl
theorem f3i (s:ByteArray) (i:Int) (b:UInt8) (h:0≤i) (hb:s[i.toNat]?=some b):D5 Tryz.prog (Instr.index 9 (.string s) (.int .i64 i))=some (.int .u8 b.toNat):=by
 have h1:Tryz.prog.underlying 9=some .string:=by kernel_rfl
 simp [Instr.index,asIntOf,underlying,program,D5,Sem.bind,Bind.bind,Pure.pure,h1,h,hb]
theorem h1f (s:ByteArray):D5 Tryz.prog (Builtin.len_ #[9] t #[.string s])=some (.int .i64 s.size):=by kernel_rfl
theorem h3r (a:Bool):D5 P (Op.unary .not (.bool a))=some (.bool (A0 a)):=rfl
end pr
attribute [simp] f1f d9n d2j d5b d9o d5c d5d d5e d0q c9l d5f d2k d2l d0r d9p d5g d5h d0s d9q d5i d2m d9r d5j d9s d5k c9m d5l d2n d5m d2o f1g a2s a3f a1l a3b U2 G3 A9 Rd.of Rd.bind Rd.run Rd.touched St.val lk up a5r a0m St.apply setsOk setsApart a2e newOk setCells C9 strike a6l c6u only a3y M0 reX re1 re0 a2y b2g finish b0q a9e b4u a9d b0p a7r a3r b2j clean P1 H7 a5t
 E_P a6e lends a4h a7x reP b4s a3j nxt h3j h3k h3l h3m h3n h3o h3p h3q h3r h1b h1c h1d h1e h1f b5b b4g b1z a0x a3p a7d b2h b0z c3p a5f far isN a6k a5e b0n b1c b2y a1v a9k a5s a4r a3w a2d a8q a7c a0o L9 O5 L6 Eff.with
 f5n d9h d4t f4p b4z f0z f1a f4n f4o a8v b4o b8j b8k d4u f5o f5p d9i f1b d9j f1c f5q f5r f5s d0p c9k d4v f4q f5t f5u f1d f1e d9k d4w d9l d4x d4y d4z d9m d5a
 content a6j a5b a9j a5m a7q b8p a0e a0f a5c a7i a9c b2r a7h U5 descend J3 P4 viewFrom b7n b0w a4g a1b bare D4 a5g b5e a2a b2s b2t stamp a9v a9w a1q b2i a2b b0j b0i Root.at_ newOk
 B3 a7t a1w a7y without args b3z U1 oneVal b0o b2u b2q D2 C3 T.cells
attribute [local congr] K9
def inR (n low high:Int):Bool:=A2 (leI low n) (leI n high)
theorem D7 (a b c:Int):fo 131 [A (vI a),A (vI b),A (vI c)]=some (R (vB (inR a b c))):=by
 refine g7r 1 ?_
 simp +contextual -dsimp [f131,inR]
theorem a7a (b:Bool) (c:Int):fo 114 [A (vB b),A (vI c)]=some (R (vI (if b then c else 0))):=by
 refine g7g 1 ?_
 cases b <;> simp -dsimp [f114]
theorem G0 (a b c:Int):fo 109 [A (vI a),A (vI b),A (vI c)]=some (R (vB (inR a b c))):=by
 refine g7b 1 ?_
 simp +contextual -dsimp [f109,inR]
theorem a8t (a:Int):fo 306 [A (vI a)]=some (R (vB (inR a 3 9))):=by
 refine h1a 1 ?_
 simp -dsimp [f306,G0]
theorem a2g (a:Int):fo 281 [A (vI a)]=some (R (vB (inR a 3 9))):=by
 refine h0l 1 ?_
 simp -dsimp [f281,D7]
theorem g0w (c:Int):fo 299 [A (.v (.int .u8 c))]=some (R (vB (inR c 97 122))):=by
 refine h0w 1 ?_
 simp +contextual -dsimp [f299,inR]
structure Node where
 kind:Int
 value:Int
 left:Int
 right:Int
structure Step where
 kind:Int
 parent:Int
 name:ByteArray
 arg:Int
 cond:List Node
 expr:List Node
abbrev nT (n:Node):List T:=[vI n.kind,vI n.value,vI n.left,vI n.right]
abbrev nS (e:TypeId) (l:List Node):T:=.sl e (l.map nT)
abbrev sT (e:TypeId) (s:Step):List T:=[vI s.kind,vI s.parent,vS s.name,vI s.arg,nS e s.cond,nS e s.expr]
abbrev emp:ByteArray:=⟨#[]⟩
def C4 (a b:Int):Int:=if eqI a 0 then b else a
theorem a0b (a b:Int):fo 78 [A (.sl 2 [[vI a],[vI b]])]=some (R (vI (C4 a b))):=by
 have h0:ltI 0 2=true:=rfl
 have h1:ltI 1 2=true:=rfl
 have h2:ltI 2 2=false:=rfl
 have w1:IntKind.i64.wrap 1=1:=rfl
 have w2:IntKind.i64.wrap 2=2:=rfl
 refine f1j 4 ?_
 cases ha:eqI a 0
 ·simp -dsimp [f78,C2,h0,ha,C4]
 ·cases hb:eqI b 0
  ·simp -dsimp [f78,C2,h0,h1,w1,ha,hb,C4]
  ·simp -dsimp [f78,C2,h0,h1,h2,w1,w2,ha,hb,C4]
   simp [eqI] at hb; exact hb.symm
theorem g3v (s:Step):fo 262 [A (.ipt (sT 219 s))]=some (R (vB (A2 (A2 (orB (eqI s.kind 2) (eqS s.name emp)) (orB (inR s.kind 5 8) (eqI s.arg 0))) (orB (eqI s.kind 7) (eqI s.expr.length 0))))):=by
 refine g9w 1 ?_
 simp +contextual -dsimp [f262,G0]
def U7 (k a:Int):Bool:=if eqI k 5 then inR a 0 9 else if eqI k 6 || eqI k 8 then inR a 1 99 else if eqI k 7 then inR a 0 3 else true
theorem e9j (s:Step):fo 266 [A (.ipt (sT 219 s))]=some (R (vB (U7 s.kind s.arg))):=by
 refine h0a 1 ?_
 cases h5:eqI s.kind 5
 ·cases h6:eqI s.kind 6
  ·cases h8:eqI s.kind 8
   ·cases h7:eqI s.kind 7
    ·simp -dsimp [f266,h5,h6,h8,h7,U7]
    ·simp -dsimp [f266,G0,h5,h6,h8,h7,U7]
   ·simp -dsimp [f266,G0,h5,h6,h8,U7]
  ·simp -dsimp [f266,G0,h5,h6,U7]
 ·simp -dsimp [f266,G0,h5,U7]
abbrev R2 (a b:T):Res:=⟨.tup [a,b],[],true⟩
def O6 (k:Int):Int × Int:=if eqI k 5 then (0,9) else if eqI k 6 || eqI k 8 then (1,99) else if eqI k 7 then (0,3) else (0,0)
theorem b3h (k:Int):fo 272 [A (vI k)]=some (R2 (vI (O6 k).1) (vI (O6 k).2)):=by
 refine h0f 1 ?_
 cases h5:eqI k 5
 ·cases h6:eqI k 6
  ·cases h8:eqI k 8
   ·cases h7:eqI k 7
    ·simp -dsimp [f272,h5,h6,h8,h7,O6]
    ·simp -dsimp [f272,h5,h6,h8,h7,O6]
   ·simp -dsimp [f272,h5,h6,h8,O6]
  ·simp -dsimp [f272,h5,h6,O6]
 ·simp -dsimp [f272,h5,O6]
def M7 (k:Int):Int × Int:=if eqI k 1 then (1,24) else if eqI k 3 || eqI k 4 then (2,24) else if eqI k 8 then (2,2) else (0,0)
theorem f7t (k:Int):fo 277 [A (vI k)]=some (R2 (vI (M7 k).1) (vI (M7 k).2)):=by
 refine h0j 1 ?_
 cases h5:eqI k 1
 ·cases h6:eqI k 3
  ·cases h8:eqI k 4
   ·cases h7:eqI k 8
    ·simp -dsimp [f277,h5,h6,h8,h7,M7]
    ·simp -dsimp [f277,h5,h6,h8,h7,M7]
   ·simp -dsimp [f277,h5,h6,h8,M7]
  ·simp -dsimp [f277,h5,h6,M7]
 ·simp -dsimp [f277,h5,M7]
def partB (k:Int):Int × Int:=if leI k 6 then (1,1) else if leI k 8 then (1,2) else (2,2)
theorem c0n (k:Int):fo 301 [A (vI k)]=some (R2 (vI (partB k).1) (vI (partB k).2)):=by
 refine h0y 1 ?_
 cases h5:leI k 6
 ·cases h6:leI k 8
  ·simp -dsimp [f301,h5,h6,partB]
  ·simp -dsimp [f301,h5,h6,partB]
 ·simp -dsimp [f301,h5,partB]
attribute [local simp] J8 K0 J0 J9 H3 J6 H4 G4 H5 G1
def a2t (n:Node) (i:Int):Int:=
 if A0 (inR n.kind 1 10)=true then 1
 else if orB (orB (A2 (leI n.kind 2) (orB (A0 (eqI n.left 0)) (A0 (eqI n.right 0)))) (A2 (A0 (leI n.kind 2)) (A0 (eqI n.value 0)))) (A2 (eqI n.kind 10) (A0 (eqI n.right 0)))=true then 1
 else if orB (A2 (eqI n.kind 1) (A0 (inR n.value 0 9999))) (A2 (eqI n.kind 2) (A0 (inR n.value 0 3)))=true then 3
 else if orB (A2 (A0 (leI n.kind 2)) (A0 (inR n.left 0 (i - 1)))) (A2 (inR n.kind 3 9) (A0 (inR n.right 0 (i - 1))))=true then 3
 else 0
theorem g3w (n:Node) (i:Int) (hi:0≤i) (hi2:i < 1000000):fo 294 [A (.ipt (nT n)),A (vI i)]=some (R (vI (a2t n i))):=by
 have hw:IntKind.i64.wrap (i - 1)=i - 1:=by rw [A6] <;> omega
 refine h0r 1 ?_
 simp (maxSteps:=1000000) +contextual -dsimp [f294,G0,a8t,a2t,hw]
def nodeFaultM (n:Node) (i:Int):Int:=
 if orB (eqI n.kind 1) (eqI n.kind 2)=true then
  C4 (if orB (A0 (eqI n.left 0)) (A0 (eqI n.right 0))=true then 1 else 0) (if A0 (inR n.value 0 (if eqI n.kind 2=true then 3 else 9999))=true then 3 else 0)
 else if eqI n.kind 10=true then
  C4 (if orB (A0 (eqI n.value 0)) (A0 (eqI n.right 0))=true then 1 else 0) (if A0 (inR n.left 0 (i - 1))=true then 3 else 0)
 else if inR n.kind 3 9=true then
  C4 (if A0 (eqI n.value 0)=true then 1 else 0) (if orB (A0 (inR n.left 0 (i - 1))) (A0 (inR n.right 0 (i - 1)))=true then 3 else 0)
 else 1
theorem f7u (n:Node) (i:Int) (hi:0≤i) (hi2:i < 1000000):fo 300 [A (.agg (nT n)),A (vI i)]=some (R (vI (nodeFaultM n i))):=by
 have hw:IntKind.i64.wrap (i - 1)=i - 1:=by rw [A6] <;> omega
 refine h0x 1 ?_
 cases h2:eqI n.kind 2
 ·cases h1:eqI n.kind 1
  ·cases h2:eqI n.kind 10
   ·cases h3:inR n.kind 3 9
    ·simp (maxSteps:=1000000) +contextual -dsimp [f300,a2g,nodeFaultM, *]
    ·simp (maxSteps:=1000000) +contextual -dsimp [f300,D7,a7a,a2g,a0b,nodeFaultM, *]
   ·simp (maxSteps:=1000000) +contextual -dsimp [f300,D7,a7a,a0b,nodeFaultM, *]
  ·simp (maxSteps:=1000000) +contextual -dsimp [f300,D7,a7a,a0b,nodeFaultM, *]
 ·simp (maxSteps:=1000000) +contextual -dsimp [f300,D7,a7a,a0b,nodeFaultM, *]
end Go.TM.Ft
namespace Go.TM.Ft
open Go Go.TM Go.Proofs Go.Proofs.Tryz
set_option maxRecDepth 20000
attribute [local congr] K9
structure Fits (s:Step):Prop where
 name:s.name.size < 2 ^ 62
 cond:s.cond.length < 2 ^ 62
 expr:s.expr.length < 2 ^ 62
theorem C1 (a:Int):eqI a a=true:=by simp [eqI]
def Q8 (bs:List UInt8):Bool:=bs.all fun b=>inR b.toNat 97 122
theorem c1g (s:ByteArray):s.data.toList.length=s.size:=rfl
theorem e9k {s:ByteArray} {i:Nat} {b:UInt8} {rest:List UInt8} (h:s.data.toList.drop i=b::rest):i < s.size∧s[i]?=some b∧s.data.toList.drop (i+1)=rest:=by
 obtain ⟨h1,h2,h3⟩:=C8 h
 have h4:i < s.size:=by rw [← c1g]; exact h1
 refine ⟨h4,?_,h3⟩
 rw [getElem?_pos s i h4]
 simp only [ByteArray.getElem_eq_getElem_data]
 simpa using h2
theorem f3j (s:ByteArray) (hs:s.size < 2 ^ 62):∀ (rest:List UInt8) (i:Nat),s.data.toList.drop i=rest→
  A5 E (orc E) (298:Nat) (rest.length+1) (B3 f298 0) ⟨18,[(0,vS s),(1,.v (.func (.func (299:Nat)) #[] #[])),(7,vI s.size),(8,vI i)],[],2⟩=
  (if Q8 rest=true then some (.exit 0,⟨18,[(0,vS s),(1,.v (.func (.func (299:Nat)) #[] #[])),(7,vI s.size),(8,vI (i+rest.length:Nat)),(9,vB false)],[],2⟩) else some (.ret,⟨18,[(4,vB false)],[],2⟩))
 | [],i,h=>by
  have hge:s.size≤i:=by rw [← c1g]; exact List.drop_eq_nil_iff.1 h
  have hlt:ltI (i:Int) (s.size:Int)=false:=B7 (by omega)
  rw [C2]
  simp +contextual -dsimp [f298,hlt,Q8]
 | b::rest,i,h=>by
  obtain ⟨hi,hb,hr⟩:=e9k h
  have hlt:ltI (i:Int) (s.size:Int)=true:=C5 (by omega)
  have hw:IntKind.i64.wrap ((i:Int)+1)=((i+1:Nat):Int):=by rw [A6] <;> omega
  have hx:=f3i s i b (by omega) (by simpa using hb)
  have g:=g0w b.toNat
  cases c:inR b.toNat 97 122
  ·have hm:Q8 (b::rest)=false:=by simp [Q8,c]
   rw [hm,if_neg (by simp)]
   refine D6 ?_ (by simp)
   simp (maxSteps:=1000000) +contextual -dsimp [f298,hlt,hx,g,c]
  ·have hm:Q8 (b::rest)=Q8 rest:=by simp [Q8,c]
   have ih:=f3j s hs rest (i+1) hr
   have he:i+1+rest.length=i+(rest.length+1):=by omega
   rw [he] at ih
   rw [hm]
   refine C0 ?_ (by simpa only [List.length_cons] using ih)
   simp (maxSteps:=1000000) +contextual -dsimp [f298,hlt,hx,hw,g,c]
theorem f6q (s:ByteArray) (hs:s.size < 2 ^ 62):fo 298 [A (vS s),A (.v (.func (.func (299:Nat)) #[] #[]))]=some (R (vB (Q8 s.data.toList))):=by
 have hlp:=f3j s hs s.data.toList 0 rfl
 refine h0v (s.data.toList.length+1) ?_
 simp -dsimp [f298] at hlp
 cases c:Q8 s.data.toList
 ·simp (maxSteps:=1000000) +contextual -dsimp [f298,hlp,c]
 ·simp (maxSteps:=1000000) +contextual -dsimp [f298,hlp,c]
def b2o (s:ByteArray):Int:=C4 (if orB (eqS s emp) (A0 (Q8 s.data.toList))=true then 5 else 0) (if ltI 8 s.size=true then 2 else 0)
theorem f7v (s:ByteArray) (hs:s.size < 2 ^ 62):fo 275 [A (vS s)]=some (R (vI (b2o s))):=by
 have g:=f6q s hs
 refine h0i 1 ?_
 simp (maxSteps:=1000000) +contextual -dsimp [f275,g,a7a,a0b,b2o]
attribute [local simp] J8 K0 J0 J9 H3 J6 H4 G4 H5 G1
abbrev iE (l:List Int):List (List T):=l.map fun n=>[vI n]
abbrev pR (v h:Nat) (list deep:List Int):Root:=⟨v,h,true,[.own 2 (iE list),.own 2 (iE deep)]⟩
def a1t (list:List Int) (parent:Int):Nat→Int→Int
 | 0,up=>up
 | f+1,up=>if ltI parent up=true then a1t list parent f (list.getD up.toNat (-1)) else up
def Tree (list:List Int):Prop:=∀ (k:Nat) (h:k < list.length),-1≤list[k]∧list[k] < k
theorem f3k (list deep:List Int) (parent:Int) (hp:-1≤parent) (ht:Tree list) (hl:list.length≤1000):∀ (f:Nat) (up:Int),up < f→up < list.length→
  A5 E (orc E) (273:Nat) (f+1) (B3 f273 0) ⟨75,[(0,.ptr 0 0 [] 0),(1,vI parent),(6,vI up)],[(0,pR 0 1 list deep)],2⟩=
  some (.exit 0,⟨75,[(0,.ptr 0 0 [] 0),(1,vI parent),(6,vI (a1t list parent f up)),(34,vB false)],[(0,pR 0 1 list deep)],2⟩)
 | 0,up,h,h2=>by
  have hlt:ltI parent up=false:=B7 (by omega)
  rw [C2]
  simp +contextual -dsimp [f273,hlt,a1t]
 | f+1,up,h,h2=>by
  cases hlt:ltI parent up
  ·rw [C2]
   simp +contextual -dsimp [f273,hlt,a1t]
  ·have hlt':parent < up:=by simpa [ltI] using hlt
   obtain ⟨k,rfl⟩:=Int.eq_ofNat_of_zero_le (show 0≤up by omega)
   have hk:k < list.length:=by omega
   obtain ⟨t1,t2⟩:=ht k hk
   have ih:=f3k list deep parent hp ht hl f list[k] (by omega) (by omega)
   have hm:a1t list parent (f+1) k=a1t list parent f list[k]:=by
    simp [a1t,hlt,hk]
   rw [hm]
   refine C0 ?_ ih
   simp (maxSteps:=1000000) +contextual -dsimp [f273,hlt,hk]
def a1d (list:List Int) (parent:Int):Bool:=orB (A2 (eqI list.length 0) (A0 (eqI parent (-1)))) (A2 (ltI 0 list.length) (A0 (inR parent 0 (list.length - 1))))
def a0c (deep:List Int) (parent:Int):Int:=if leI 0 parent=true then deep.getD parent.toNat 0+1 else 1
def L0 (list deep:List Int) (parent:Int):Int × List Int × List Int:=
 if a1d list parent=true then (3,list,deep)
 else if A0 (eqI (a1t list parent list.length (list.length - 1)) parent)=true then (1,list,deep)
 else (0,list++[parent],deep++[a0c deep parent])
abbrev c7m (list deep:List Int):Arg:=⟨.ptr 0 0 [] 0,some (pR 0 1 list deep)⟩
abbrev c7n (list deep:List Int):List (Nat × List T):=[(0,[.own 2 (iE list),.own 2 (iE deep)])]
theorem h3s (list deep:List Int) (parent:Int) (hp1:-9223372036854775808≤parent) (hp2:parent < 9223372036854775808) (ht:Tree list) (hl:list.length≤1000) (hd:deep.length=list.length)
  (hv:∀ d,d∈deep→0≤d∧d≤1000000):
  fo 273 [c7m list deep,A (vI parent)]=some ⟨vI (L0 list deep parent).1,c7n (L0 list deep parent).2.1 (L0 list deep parent).2.2,true⟩:=by
 have hw:IntKind.i64.wrap ((list.length:Int) - 1)=(list.length:Int) - 1:=by rw [A6] <;> omega
 have hm1:list.length+1≤B9:=by unfold B9; omega
 have hm2:deep.length+1≤B9:=by unfold B9; omega
 refine h0g (list.length+1) ?_
 cases c1:a1d list parent
 ·have hpr:-1≤parent∧parent < list.length∧¬ (parent=-1∧0 < list.length):=by
   simp only [a1d,orB,A2,A0,eqI,ltI,inR,leI,Bool.or_eq_false_iff,Bool.and_eq_false_iff,Bool.not_eq_false',beq_eq_false_iff_ne,beq_iff_eq,decide_eq_false_iff_not,decide_eq_true_eq,Bool.and_eq_true] at c1
   omega
  obtain ⟨p1,p2,p3⟩:=hpr
  have hlp:=f3k list deep parent p1 ht hl list.length ((list.length:Int) - 1) (by omega) (by omega)
  simp -dsimp [f273] at hlp
  cases c2:eqI (a1t list parent list.length (list.length - 1)) parent
  ·simp only [a1d] at c1
   simp (maxSteps:=1000000) +contextual -dsimp [f273,D7,hw,hlp,c1,c2,L0,a1d]
  ·cases c3:leI 0 parent
   ·simp only [a1d] at c1
    simp (maxSteps:=1000000) +contextual -dsimp [f273,D7,hw,hlp,c1,c2,c3,hm1,hm2,L0,a1d,a0c]
   ·simp only [a1d] at c1
    have h0:0≤parent:=by simpa [leI] using c3
    obtain ⟨k,rfl⟩:=Int.eq_ofNat_of_zero_le h0
    have hk:k < deep.length:=by omega
    have hb:=hv deep[k] (List.getElem_mem hk)
    have hw2:IntKind.i64.wrap (deep[k]+1)=deep[k]+1:=by rw [A6] <;> omega
    simp (maxSteps:=1000000) +contextual -dsimp [f273,D7,hw,hlp,c1,c2,c3,hm1,hm2,hk,hw2,L0,a1d,a0c]
 ·simp only [a1d] at c1
  simp (maxSteps:=1000000) +contextual -dsimp [f273,D7,hw,c1,L0,a1d]
def M4:Nat→List Node→Int
 | _,[]=>0
 | i,n::r=>if A0 (eqI (nodeFaultM n i) 0)=true then nodeFaultM n i else M4 (i+1) r
theorem e9l (all:List Node) (hall:all.length≤16):∀ (rest:List Node) (i:Nat),all.drop i=rest→
  A5 E (orc E) (276:Nat) (rest.length+1) (B3 f276 0) ⟨112,[(0,nS 219 all),(16,nS 219 all),(17,vI all.length),(18,vI i)],[],2⟩=
  (if eqI (M4 i rest) 0=true then some (.exit 0,⟨112,[(0,nS 219 all),(16,nS 219 all),(17,vI all.length),(18,vI (i+rest.length:Nat)),(19,vB false)],[],2⟩) else some (.ret,⟨112,[(2,vI (M4 i rest))],[],2⟩))
 | [],i,h=>by
  have hge:all.length≤i:=by simpa using h
  have hlt:ltI (i:Int) (all.length:Int)=false:=B7 (by omega)
  rw [C2]
  simp +contextual -dsimp [f276,hlt,M4,C1]
 | n::rest,i,h=>by
  obtain ⟨hi,hc,hr⟩:=C8 h
  have hlt:ltI (i:Int) (all.length:Int)=true:=C5 (by omega)
  have hw:IntKind.i64.wrap ((i:Int)+1)=((i+1:Nat):Int):=by rw [A6] <;> omega
  have he:i+1+rest.length=i+(rest.length+1):=by omega
  have g:=f7u n i (by omega) (by omega)
  cases c:eqI (nodeFaultM n i) 0
  ·have hm:M4 i (n::rest)=nodeFaultM n i:=by simp [M4,c,A0]
   rw [hm,c,if_neg (by simp)]
   refine D6 ?_ (by simp)
   simp (maxSteps:=1000000) +contextual -dsimp [f276,hlt,hi,hc,g,c,List.set]
  ·have ih:=e9l all hall rest (i+1) hr
   rw [he] at ih
   have hm:M4 i (n::rest)=M4 (i+1) rest:=by simp [M4,c,A0]
   rw [hm]
   refine C0 ?_ (by simpa only [List.length_cons] using ih)
   simp (maxSteps:=1000000) +contextual -dsimp [f276,hlt,hi,hc,hw,g,c,List.set]
def b8b (n:Node) (i:Nat):Prop:=(eqI n.kind 10=true→0≤n.left∧n.left < i)∧(eqI n.kind 10=false→inR n.kind 3 9=true→0≤n.left∧n.left < i∧0≤n.right∧n.right < i)
def A3 (sizes:List Int) (k:Int):Int:=sizes.getD k.toNat 0
def a7n (n:Node) (i:Int) (sizes:List Int) (wrong:Bool):Bool:=
 if eqI n.kind 10=true then orB wrong (A0 (eqI n.left (i - 1)))
 else if inR n.kind 3 9=true then orB (orB wrong (A0 (eqI n.right (i - 1)))) (A0 (eqI n.left (i - 1 - A3 sizes n.right)))
 else wrong
def a4o (n:Node) (sizes:List Int):Int:=
 if eqI n.kind 10=true then 1+A3 sizes n.left
 else if inR n.kind 3 9=true then 1+(A3 sizes n.left+A3 sizes n.right)
 else 1
def O2:List Node→Nat→List Int→Bool→List Int × Bool
 | [],_,sizes,wrong=>(sizes,wrong)
 | n::r,i,sizes,wrong=>O2 r (i+1) (sizes++[a4o n sizes]) (a7n n i sizes wrong)
theorem e9m {sizes:List Int} {B:Int} (hB:0≤B) (hb:∀ x,x∈sizes→0≤x∧x≤B) (k:Int):0≤A3 sizes k∧A3 sizes k≤B:=by
 unfold A3
 rcases Nat.lt_or_ge k.toNat sizes.length with h | h
 ·rw [List.getD_eq_getElem?_getD,List.getElem?_eq_getElem h]
  exact hb _ (List.getElem_mem h)
 ·rw [List.getD_eq_getElem?_getD,List.getElem?_eq_none h]
  exact ⟨Int.le_refl _,hB⟩
theorem e9n (all:List Node) (hall:all.length≤16):∀ (rest:List Node) (i:Nat) (sizes:List Int) (wrong:Bool),all.drop i=rest→sizes.length=i→(∀ x,x∈sizes→0≤x∧x≤(4:Int) ^ i)→
  (∀ (k:Nat) (n:Node),rest[k]?=some n→b8b n (i+k))→
  A5 E (orc E) (276:Nat) (rest.length+1) (B3 f276 1) ⟨112,[(0,nS 219 all),(6,.ref 6 1 [] 0 sizes.length),(7,vB wrong),(31,nS 219 all),(32,vI all.length),(33,vI i)],[(6,⟨1,1,false,[.own 2 (iE sizes)]⟩)],2⟩=
  some (.exit 2,⟨112,[(0,nS 219 all),(6,.ref 6 1 [] 0 (O2 rest i sizes wrong).1.length),(7,vB (O2 rest i sizes wrong).2),(31,nS 219 all),(32,vI all.length),(33,vI (i+rest.length:Nat)),(34,vB false)],[(6,⟨1,1,false,[.own 2 (iE (O2 rest i sizes wrong).1)]⟩)],2⟩)
 | [],i,sizes,wrong,h,hs,hb,ho=>by
  have hge:all.length≤i:=by simpa using h
  have hlt:ltI (i:Int) (all.length:Int)=false:=B7 (by omega)
  rw [C2]
  simp +contextual -dsimp [f276,hlt,O2]
 | n::rest,i,sizes,wrong,h,hs,hb,ho=>by
  obtain ⟨hi,hc,hr⟩:=C8 h
  have hlt:ltI (i:Int) (all.length:Int)=true:=C5 (by omega)
  have hw:IntKind.i64.wrap ((i:Int)+1)=((i+1:Nat):Int):=by rw [A6] <;> omega
  have hw1:IntKind.i64.wrap ((i:Int) - 1)=(i:Int) - 1:=by rw [A6] <;> omega
  have he:i+1+rest.length=i+(rest.length+1):=by omega
  have hm1:sizes.length+1≤B9:=by unfold B9; omega
  have hp:(4:Int) ^ i≤4294967296:=by
   have h1:=Nat.pow_le_pow_right (n:=4) (by omega) (show i≤16 by omega)
   have h2:((4:Int) ^ i)=((4 ^ i:Nat):Int):=by simp
   rw [h2]; omega
  have hp0:(0:Int) < 4 ^ i:=Int.pow_pos (by omega)
  have hp1:(4:Int) ^ (i+1)=4*4 ^ i:=by rw [Int.pow_succ]; omega
  have bl:=e9m (by omega) hb n.left
  have br:=e9m (by omega) hb n.right
  obtain ⟨o1,o2⟩:=ho 0 n (by simp)
  have hsz:0≤a4o n sizes∧a4o n sizes≤4 ^ (i+1):=by
   unfold a4o
   rw [hp1]
   split
   ·omega
   ·split <;> omega
  have ih:=e9n all hall rest (i+1) (sizes++[a4o n sizes]) (a7n n i sizes wrong) hr (by simp; omega) (fun x hx=>by
   rcases List.mem_append.1 hx with hx | hx
   ·have:=hb x hx; omega
   ·simp only [List.mem_singleton] at hx; subst hx; exact hsz) (fun k m hk=>by
   have:=ho (k+1) m (by simpa using hk)
   have e:i+1+k=i+(k+1):=by omega
   rw [e]; exact this)
  rw [he] at ih
  refine C0 ?_ (by simpa only [List.length_cons,O2] using ih)
  cases c1:eqI n.kind 10
  ·cases c2:inR n.kind 3 9
   ·simp (maxSteps:=1000000) +contextual -dsimp [f276,a2g,hlt,hi,hc,hw,hw1,hm1,c1,c2,a4o,a7n,List.set]
   ·obtain ⟨p1,p2,p3,p4⟩:=o2 c1 c2
    obtain ⟨l,hl⟩:=Int.eq_ofNat_of_zero_le p1
    obtain ⟨r,hr'⟩:=Int.eq_ofNat_of_zero_le p3
    have hl2:l < sizes.length:=by omega
    have hr2:r < sizes.length:=by omega
    have e1:A3 sizes (l:Int)=sizes[l]:=by simp [A3,hl2]
    have e2:A3 sizes (r:Int)=sizes[r]:=by simp [A3,hr2]
    rw [hl,e1] at bl
    rw [hr',e2] at br
    have w1:IntKind.i64.wrap (sizes[l]+sizes[r])=sizes[l]+sizes[r]:=by rw [A6] <;> omega
    have w2:IntKind.i64.wrap (1+(sizes[l]+sizes[r]))=1+(sizes[l]+sizes[r]):=by rw [A6] <;> omega
    have w3:IntKind.i64.wrap ((i:Int) - 1 - sizes[r])=(i:Int) - 1 - sizes[r]:=by rw [A6] <;> omega
    simp (maxSteps:=1000000) +contextual -dsimp [f276,a2g,hlt,hi,hc,hw,hw1,hm1,c1,c2,hl,hr',hl2,hr2,e1,e2,w1,w2,w3,a4o,a7n,List.set]
  ·obtain ⟨p1,p2⟩:=o1 c1
   obtain ⟨l,hl⟩:=Int.eq_ofNat_of_zero_le p1
   have hl2:l < sizes.length:=by omega
   have e1:A3 sizes (l:Int)=sizes[l]:=by simp [A3,hl2]
   rw [hl,e1] at bl
   have w1:IntKind.i64.wrap (1+sizes[l])=1+sizes[l]:=by rw [A6] <;> omega
   simp (maxSteps:=1000000) +contextual -dsimp [f276,hlt,hi,hc,hw,hw1,hm1,c1,hl,hl2,e1,w1,a4o,a7n,List.set]
theorem a0a {a b:Int} (h:C4 a b=0):a=0∧b=0:=by
 unfold C4 at h
 split at h
 ·rename_i c; simp [eqI] at c; exact ⟨c,h⟩
 ·rename_i c; simp [eqI] at c; exact absurd h c
theorem f7d {n:Node} {i:Nat} (h:nodeFaultM n i=0):b8b n i:=by
 unfold nodeFaultM at h
 refine ⟨fun h10=>?_,fun h10 h39=>?_⟩
 ·have e:n.kind=10:=by simpa [eqI] using h10
  rw [if_neg (by simp [orB,eqI,e]),if_pos h10] at h
  have:=(a0a h).2
  split at this
  ·simp at this
  ·rename_i hc
   simp [A0,inR,A2,leI] at hc
   omega
 ·have e:3≤n.kind∧n.kind≤9:=by simpa [inR,A2,leI] using h39
  rw [if_neg (by simp [orB,eqI]; omega),if_neg (by rw [h10]; simp),if_pos h39] at h
  have:=(a0a h).2
  split at this
  ·simp at this
  ·rename_i hc
   simp [A0,inR,A2,leI,orB] at hc
   omega
theorem c2z:∀ {l:List Node} {i:Nat},M4 i l=0→∀ (k:Nat) (n:Node),l[k]?=some n→b8b n (i+k)
 | [],i,_,k,n,h=>by simp at h
 | x::l,i,hz,k,n,h=>by
  unfold M4 at hz
  split at hz
  ·rename_i hc
   rw [hz] at hc; simp [A0,eqI] at hc
  ·rename_i hc
   have h0:nodeFaultM x i=0:=by simpa [A0,eqI] using hc
   cases k with
   | zero=>simp at h; subst h; exact f7d h0
   | succ k=>
    have:=c2z hz k n (by simpa using h)
    have e:i+1+k=i+(k+1):=by omega
    rw [← e]; exact this
theorem d6i:∀ (l:List Node) (i:Nat) (sizes:List Int) (w:Bool),(O2 l i sizes w).1.length=sizes.length+l.length
 | [],_,_,_=>by simp [O2]
 | n::l,i,sizes,w=>by simp only [O2]; rw [d6i]; simp; omega
def a0j (l:List Node):Int:=
 if A0 (inR l.length 1 16)=true then 2
 else if A0 (eqI (M4 0 l) 0)=true then M4 0 l
 else if orB (O2 l 0 [] false).2 (A0 (eqI (A3 (O2 l 0 [] false).1 (l.length - 1)) l.length))=true then 1 else 0
theorem b9s (l:List Node) (hl:l.length < 2 ^ 62):fo 276 [A (nS 219 l)]=some (R (vI (a0j l))):=by
 cases c1:inR l.length 1 16
 ·refine e0a 1 ?_
  simp (maxSteps:=1000000) +contextual -dsimp [f276,D7,c1,a0j]
 ·have hl2:1≤l.length∧l.length≤16:=by simp [inR,A2,leI] at c1; omega
  refine e0a (l.length+1) ?_
  have ha:=e9l l hl2.2 l 0 rfl
  simp -dsimp [f276] at ha
  cases c2:eqI (M4 0 l) 0
  ·rw [c2] at ha
   simp (maxSteps:=1000000) +contextual -dsimp [f276,D7,c1,c2,ha,a0j]
  ·have hb:=e9n l hl2.2 l 0 [] false rfl rfl (by simp) (c2z (by simpa [eqI] using c2))
   rw [c2] at ha
   simp -dsimp [f276] at hb
   have hlen:=d6i l 0 [] false
   simp at hlen
   have hlt:l.length - 1 < (O2 l 0 [] false).1.length:=by omega
   have hw:IntKind.i64.wrap ((l.length:Int) - 1)=((l.length - 1:Nat):Int):=by rw [A6] <;> omega
   have e1:A3 (O2 l 0 [] false).1 ((l.length:Int) - 1)=(O2 l 0 [] false).1[l.length - 1]:=by
    have:((l.length:Int) - 1).toNat=l.length - 1:=by omega
    simp [A3,this,hlt]
   simp (maxSteps:=1000000) +contextual -dsimp [f276,D7,a7a,c1,c2,ha,hb,hw,hlt,e1,a0j]
def a6u (n:Node) (types:List Int):Bool:=
 orB (A2 (ltI 2 n.kind) (A0 (eqI (A3 types n.left) (partB n.kind).1))) (A2 (inR n.kind 3 9) (A0 (eqI (A3 types n.right) (partB n.kind).1)))
def K8:List Node→List Int→Bool × List Int
 | [],acc=>(true,acc)
 | n::r,acc=>if a6u n acc=true then (false,acc) else K8 r (acc++[(partB n.kind).2])
abbrev b0t (a b:Int):Root:=⟨1,1,true,[vI a,vI b]⟩
theorem f3l (all:List Node) (hall:all.length≤16):∀ (rest:List Node) (i:Nat) (acc:List Int),all.drop i=rest→acc.length=i→
    (∀ (k:Nat) (n:Node),rest[k]?=some n→ltI 2 n.kind=true→(0≤n.left∧n.left < (i+k:Nat))∧(inR n.kind 3 9=true→0≤n.right∧n.right < (i+k:Nat)))→
    A5 E (orc E) (279:Nat) (rest.length+1) (B3 f279 0) ⟨67,[(2,.ptr 2 1 [] 0),(4,.ref 4 1 [] 0 acc.length),(16,nS 219 all),(17,vI all.length),(18,vI i)],[(2,b0t 0 0),(4,⟨1,1,false,[.own 2 (iE acc)]⟩)],2⟩=
    (if (K8 rest acc).1 = true then some (.exit 0, ⟨67, [(2, .ptr 2 1 [] 0), (4, .ref 4 1 [] 0 (K8 rest acc).2.length), (16, nS 219 all), (17, vI all.length), (18, vI (i + rest.length : Nat)), (19, vB false)], [(2, b0t 0 0), (4, ⟨1, 1, false, [.own 2 (iE (K8 rest acc).2)]⟩)], 2⟩)
     else some (.ret,⟨67,[(2,.ptr 2 1 [] 0)],[(2,b0t 7 0),(4,⟨1,1,false,[.own 2 (iE (K8 rest acc).2)]⟩)],2⟩))
  | [],i,acc,h,hs,ho=>by
    have hge:all.length≤i:=by simpa using h
    have hlt:ltI (i:Int) (all.length:Int)=false:=B7 (by omega)
    rw [C2]
    simp +contextual -dsimp [f279,hlt,K8]
  | n::rest,i,acc,h,hs,ho=>by
    obtain ⟨hi,hc,hr⟩:=C8 h
    have hlt:ltI (i:Int) (all.length:Int)=true:=C5 (by omega)
    have hw:IntKind.i64.wrap ((i:Int)+1)=((i+1:Nat):Int):=by rw [A6] <;> omega
    have he:i+1+rest.length=i+(rest.length+1):=by omega
    have hm1:acc.length+1≤B9:=by unfold B9; omega
    have ih:=f3l all hall rest (i+1) (acc++[(partB n.kind).2]) hr (by simp; omega) (fun k m hk=>by
      have:=ho (k+1) m (by simpa using hk)
      have e:i+1+k=i+(k+1):=by omega
      rw [e]; exact this)
    rw [he] at ih
    have ho':=ho 0 n (by simp)
    have step:(a6u n acc=false→B6 E (orc E) (279:Nat) (A5 E (orc E) (279:Nat) (rest.length+1)) (B3 f279 0) ⟨67,[(2,.ptr 2 1 [] 0),(4,.ref 4 1 [] 0 acc.length),(16,nS 219 all),(17,vI all.length),(18,vI i)],[(2,b0t 0 0),(4,⟨1,1,false,[.own 2 (iE acc)]⟩)],2⟩=
        some (.normal,⟨67,[(2,.ptr 2 1 [] 0),(4,.ref 4 1 [] 0 (acc++[(partB n.kind).2]).length),(16,nS 219 all),(17,vI all.length),(18,vI (i+1:Nat))],[(2,b0t 0 0),(4,⟨1,1,false,[.own 2 (iE (acc++[(partB n.kind).2]))]⟩)],2⟩))∧
        (a6u n acc=true→B6 E (orc E) (279:Nat) (A5 E (orc E) (279:Nat) (rest.length+1)) (B3 f279 0) ⟨67,[(2,.ptr 2 1 [] 0),(4,.ref 4 1 [] 0 acc.length),(16,nS 219 all),(17,vI all.length),(18,vI i)],[(2,b0t 0 0),(4,⟨1,1,false,[.own 2 (iE acc)]⟩)],2⟩=
        some (.ret,⟨67,[(2,.ptr 2 1 [] 0)],[(2,b0t 7 0),(4,⟨1,1,false,[.own 2 (iE acc)]⟩)],2⟩)):=by
      unfold a6u
      cases c1:ltI 2 n.kind
      · have c2 : inR n.kind 3 9 = false := by simp [ltI, inR, A2, leI] at c1 ⊢; omega
        refine ⟨fun _=>?_,fun hb=>by rw [c2] at hb; simp [orB,A2] at hb⟩
        simp (maxSteps:=1000000) +contextual -dsimp [f279,a2g,c0n,hlt,hi,hc,hw,hm1,c1,c2,List.set]
      · obtain ⟨⟨p1, p2⟩, p3⟩ := ho' c1
        obtain ⟨l,hl⟩:=Int.eq_ofNat_of_zero_le p1
        have hl2:l < acc.length:=by omega
        have e1:A3 acc (l:Int)=acc[l]:=by simp [A3,hl2]
        rw [hl,e1]
        cases c2:inR n.kind 3 9
        · refine ⟨fun hb => ?_, fun hb => ?_⟩
          all_goals
            simp only [a8v,b4o,b4z] at hb
            simp (maxSteps:=1000000) +contextual -dsimp [f279,a2g,c0n,hlt,hi,hc,hw,hm1,c1,c2,hl,hl2,hb,List.set]
        · obtain ⟨p4, p5⟩ := p3 c2
          obtain ⟨r,hr'⟩:=Int.eq_ofNat_of_zero_le p4
          have hr2:r < acc.length:=by omega
          have e2:A3 acc (r:Int)=acc[r]:=by simp [A3,hr2]
          rw [hr',e2]
          refine ⟨fun hb=>?_,fun hb=>?_⟩
          all_goals
            simp only [a8v] at hb
            simp (maxSteps:=1000000) +contextual -dsimp [f279,a2g,c0n,hlt,hi,hc,hw,hm1,c1,c2,hl,hl2,hr',hr2,hb,List.set]
    cases cb:a6u n acc
    · have hm : K8 (n :: rest) acc = K8 rest (acc ++ [(partB n.kind).2]) := by simp [K8, cb]
      rw [hm]
      exact C0 (step.1 cb) (by simpa only [List.length_cons] using ih)
    · have hm : K8 (n :: rest) acc = (false, acc) := by simp [K8, cb]
      rw [hm,if_neg (by simp)]
      exact D6 (step.2 cb) (by simp)
theorem d2q:∀ (l:List Node) (acc:List Int),(K8 l acc).1=true→(K8 l acc).2.length=acc.length+l.length
 | [],acc,_=>by simp [K8]
 | n::l,acc,h=>by
  unfold K8 at h ⊢
  split at h
  ·simp at h
  ·rename_i hc
   rw [if_neg hc]
   rw [d2q l _ h]; simp; omega
abbrev RI (c v:Int):Res:=⟨.agg [vI c,vI v],[],true⟩
def a1x (l:List Node):Int × Int:=
 if A0 (eqI (a0j l) 0)=true then (a0j l,0)
 else if (K8 l []).1=true then (0,A3 (K8 l []).2 (l.length - 1)) else (7,0)
theorem f7e {n:Node} {i:Nat} (h:b8b n i) (hk:nodeFaultM n i=0) (h2:ltI 2 n.kind=true):(0≤n.left∧n.left < (i:Nat))∧(inR n.kind 3 9=true→0≤n.right∧n.right < (i:Nat)):=by
 obtain ⟨h10,h39⟩:=h
 have g2:2 < n.kind:=by simpa [ltI] using h2
 by_cases e10:n.kind=10
 ·have a:=h10 (by simp [eqI,e10])
  exact ⟨a,fun hc=>by simp [inR,A2,leI] at hc; omega⟩
 ·have f10:eqI n.kind 10=false:=by simp [eqI,e10]
  by_cases e39:inR n.kind 3 9=true
  ·obtain ⟨a,b,c,d⟩:=h39 f10 e39
   exact ⟨⟨a,b⟩,fun _=>⟨c,d⟩⟩
  ·exfalso
   unfold nodeFaultM at hk
   rw [if_neg (by simp [orB,eqI]; omega),if_neg (by rw [f10]; simp),if_neg e39] at hk
   simp at hk
theorem c1h:∀ {l:List Node} {i:Nat},M4 i l=0→∀ (k:Nat) (n:Node),l[k]?=some n→nodeFaultM n (i+k:Nat)=0
 | [],i,_,k,n,h=>by simp at h
 | x::l,i,hz,k,n,h=>by
  unfold M4 at hz
  split at hz
  ·rename_i hc
   rw [hz] at hc; simp [A0,eqI] at hc
  ·rename_i hc
   have h0:nodeFaultM x i=0:=by simpa [A0,eqI] using hc
   cases k with
   | zero=>simp at h; subst h; exact h0
   | succ k=>
    have:=c1h hz k n (by simpa using h)
    have e:i+1+k=i+(k+1):=by omega
    rw [← e]; exact this
theorem d2r {l:List Node} (h:a0j l=0):1≤l.length∧l.length≤16∧M4 0 l=0:=by
 unfold a0j at h
 split at h
 ·simp at h
 ·rename_i c1
  split at h
  ·rename_i c2; rw [h] at c2; simp [A0,eqI] at c2
  ·rename_i c2
   simp [A0,inR,A2,leI] at c1
   simp [A0,eqI] at c2
   omega
theorem g3x (l:List Node) (hl:l.length < 2 ^ 62):fo 279 [A (nS 219 l)]=some (RI (a1x l).1 (a1x l).2):=by
 have g:=b9s l hl
 cases c1:eqI (a0j l) 0
 ·refine e0b 1 ?_
  simp (maxSteps:=1000000) +contextual -dsimp [f279,g,c1,a1x,List.set]
 ·obtain ⟨h1,h2,h3⟩:=d2r (by simpa [eqI] using c1)
  have e0:a0j l=0:=by simpa [eqI] using c1
  have hlp:=f3l l h2 l 0 [] rfl rfl (fun k n hk h2=>by
   simpa using f7e (c2z h3 k n hk) (c1h h3 k n hk) h2)
  refine e0b (l.length+1) ?_
  simp -dsimp [f279] at hlp
  cases c2:(K8 l []).1
  ·rw [c2] at hlp
   simp (maxSteps:=1000000) +contextual -dsimp [f279,g,e0,c2,hlp,a1x,C1,List.set]
  ·rw [c2] at hlp
   have hlen:=d2q l [] c2
   simp at hlen
   have hlt:l.length - 1 < (K8 l []).2.length:=by omega
   have hlt2:l.length - 1 < l.length:=by omega
   have hw:IntKind.i64.wrap ((l.length:Int) - 1)=((l.length - 1:Nat):Int):=by rw [A6] <;> omega
   have e1:A3 (K8 l []).2 ((l.length:Int) - 1)=(K8 l []).2[l.length - 1]:=by
    have:((l.length:Int) - 1).toNat=l.length - 1:=by omega
    simp [A3,this,hlt]
   simp (maxSteps:=1000000) +contextual -dsimp [f279,g,e0,c2,hlp,hlen,hw,hlt2,e1,a1x,C1,List.set]
end Go.TM.Ft
