/- What functions of the program come to, by the machine. -/
import Derived.Test.YtlmiemdojgahaaaGreatKE
set_option linter.unusedSimpArgs false
set_option linter.unusedVariables false
set_option maxHeartbeats 1000000
namespace Go.TM.Ft
open Go Go.TM Go.Proofs Go.Proofs.Tryz
set_option maxRecDepth 20000
abbrev vI (n:Int):T:=.v (.int .i64 n)
abbrev vB (b:Bool):T:=.v (.bool b)
abbrev vS (s:ByteArray):T:=.v (.string s)
abbrev A (t:T):Arg:=⟨t,none⟩
abbrev R (t:T):Res:=⟨t,[],true⟩
def eqI (a b:Int):Bool:=a==b
def leI (a b:Int):Bool:=decide (a≤b)
def ltI (a b:Int):Bool:=decide (a < b)
def eqB (a b:Bool):Bool:=a==b
def eqS (a b:ByteArray):Bool:=a.toList==b.toList
theorem i5y {a b:Int} (h:a≤b):leI a b=true:=by simp [leI,h]
theorem C4 {a b:Int} (h:a < b):ltI a b=true:=by simp [ltI,h]
theorem B6 {a b:Int} (h:¬ a < b):ltI a b=false:=by simp [ltI]; omega
theorem a8y (a:ByteArray):eqS a a=true:=by simp [eqS]
section pr
variable (P:Program) (t:TypeId) (x y:Operand)
theorem i3z (k:IntKind) (a b:Int):D6 P (do eqGuard .leq t x y (.int k a) (.int k b); binOp .leq t (.int k a) (.int k b))=some (.bool (leI a b)):=by cases k <;> rfl
theorem i4a (k:IntKind) (a b:Int):D6 P (do eqGuard .lss t x y (.int k a) (.int k b); binOp .lss t (.int k a) (.int k b))=some (.bool (ltI a b)):=by cases k <;> rfl
theorem i4b (k:IntKind) (a b:Int):D6 P (do eqGuard .gtr t x y (.int k a) (.int k b); binOp .gtr t (.int k a) (.int k b))=some (.bool (ltI b a)):=by cases k <;> rfl
theorem i4c (k:IntKind) (a b:Int):D6 P (do eqGuard .geq t x y (.int k a) (.int k b); binOp .geq t (.int k a) (.int k b))=some (.bool (leI b a)):=by cases k <;> rfl
theorem i4d (k:IntKind) (a b:Int):D6 P (do eqGuard .eql t x y (.int k a) (.int k b); binOp .eql t (.int k a) (.int k b))=some (.bool (eqI a b)):=by cases k <;> rfl
theorem i4e (k:IntKind) (a b:Int):D6 P (do eqGuard .neq t x y (.int k a) (.int k b); binOp .neq t (.int k a) (.int k b))=some (.bool (A0 (eqI a b))):=by cases k <;> rfl
theorem i4f (k:IntKind) (a b:Int):D6 P (do eqGuard .add t x y (.int k a) (.int k b); binOp .add t (.int k a) (.int k b))=some (.int k (k.wrap (a+b))):=by cases k <;> rfl
theorem i4g (k:IntKind) (a b:Int):D6 P (do eqGuard .sub t x y (.int k a) (.int k b); binOp .sub t (.int k a) (.int k b))=some (.int k (k.wrap (a - b))):=by cases k <;> rfl
theorem i0w (a b:Bool):D6 Tryz.prog (do eqGuard .eql 4 x y (.bool a) (.bool b); binOp .eql 4 (.bool a) (.bool b))=some (.bool (eqB a b)):=by kernel_rfl
theorem i0x (a b:Bool):D6 Tryz.prog (do eqGuard .neq 4 x y (.bool a) (.bool b); binOp .neq 4 (.bool a) (.bool b))=some (.bool (A0 (eqB a b))):=by kernel_rfl
theorem i0y (a b:ByteArray):D6 P (do eqGuard .eql t x y (.string a) (.string b); binOp .eql t (.string a) (.string b))=some (.bool (eqS a b)):=rfl
theorem i0z (a b:ByteArray):D6 P (do eqGuard .neq t x y (.string a) (.string b); binOp .neq t (.string a) (.string b))=some (.bool (A0 (eqS a b))):=rfl
theorem g0u (s:ByteArray) (i:Int) (b:UInt8) (h:0≤i) (hb:s[i.toNat]?=some b):D6 Tryz.prog (Instr.index 9 (.string s) (.int .i64 i))=some (.int .u8 b.toNat):=by
 have h1:Tryz.prog.underlying 9=some .string:=by kernel_rfl
 simp [Instr.index,asIntOf,underlying,program,D6,Sem.bind,Bind.bind,Pure.pure,h1,h,hb]
theorem i1a (s:ByteArray):D6 Tryz.prog (Builtin.len_ #[9] t #[.string s])=some (.int .i64 s.size):=by kernel_rfl
theorem i4h (a:Bool):D6 P (Op.unary .not (.bool a))=some (.bool (A0 a)):=rfl
end pr
attribute [simp] f7m e3t d6g d8z e3u d9a d9b d9c d4j d2y d9d d6h d6i d4k e3v d9e d9f d4l e3w d9g d6j e3x d9h e3y d9i d2z d9j d6k d9k d6l f7n a2v a3i a1m a3e W3 G7 B2 Rd.of Rd.bind Rd.run Rd.touched St.val lk up a5z a0l St.apply setsOk setsApart a2g newOk setCells D1 strike a6q d0e only a4c N0 reX re1 re0 a3c b3a finish b1b a9q b6a a9p b1a a8e a3u b3d clean N5 D9 a6b
 E_P a6j lends a4l a8n reP b5z a3n nxt i3z i4a i4b i4c i4d i4e i4f i4g i4h i0w i0x i0y i0z i1a b6i b5j b2s U4 a3s a7r b3b b1l c5q a5l far isN a6p a5k b0y b1p b3v a2a a9w a6a a4u a4a a2f a9b a7q a0n L9 O5 L5 Eff.with
 g2x e3n d8r g1x b6f f7g f7h g1v g1w a9h b5s c0c c0d d8s g2y g2z e3o f7i e3p f7j g3a g3b g3c d4i d2x d8t g1y g3d g3e f7k f7l e3q d8u e3r d8v d8w d8x e3s d8y
 content a6o a5i a9v a5u a8d c0j a0d a0e a5j a7x a9o b3l a7w W4 descend J3 U0 viewFrom b9d a7b a4k a1a bare D7 a5m b6m W7 b3m b3n stamp b0g b0h a1t b3c a2e b0u b0t Root.at_ newOk
 A8 a8g a2b a8o without args b5c W2 oneVal b0z b3o b3k D4 C5 T.cells
attribute [local congr] M0
def inR (n low high:Int):Bool:=A1 (leI low n) (leI n high)
theorem G1 (a b c:Int):fo 131 [A (vI a),A (vI b),A (vI c)]=some (R (vB (inR a b c))):=by
 refine h6s 1 ?_
 simp +contextual -dsimp [f131,inR]
theorem a7n (b:Bool) (c:Int):fo 114 [A (vB b),A (vI c)]=some (R (vI (if b then c else 0))):=by
 refine h6h 1 ?_
 cases b <;> simp -dsimp [f114]
theorem C8 (a b c:Int):fo 109 [A (vI a),A (vI b),A (vI c)]=some (R (vB (inR a b c))):=by
 refine h6c 1 ?_
 simp +contextual -dsimp [f109,inR]
theorem a9f (a:Int):fo 306 [A (vI a)]=some (R (vB (inR a 3 9))):=by
 refine i0u 1 ?_
 simp -dsimp [f306,C8]
theorem a2i (a:Int):fo 281 [A (vI a)]=some (R (vB (inR a 3 9))):=by
 refine i0e 1 ?_
 simp -dsimp [f281,G1]
theorem g9e (c:Int):fo 299 [A (.v (.int .u8 c))]=some (R (vB (inR c 97 122))):=by
 refine i0q 1 ?_
 simp +contextual -dsimp [f299,inR]
structure Node where
 kind:Int
 value:Int
 left:Int
 right:Int
structure Step where
 kind:Int
 parent:Int
 name:ByteArray
 arg:Int
 cond:List Node
 expr:List Node
abbrev nT (n:Node):List T:=[vI n.kind,vI n.value,vI n.left,vI n.right]
abbrev nS (e:TypeId) (l:List Node):T:=.sl e (l.map nT)
abbrev sT (e:TypeId) (s:Step):List T:=[vI s.kind,vI s.parent,vS s.name,vI s.arg,nS e s.cond,nS e s.expr]
abbrev emp:ByteArray:=⟨#[]⟩
def B5 (a b:Int):Int:=if eqI a 0 then b else a
theorem U5 (a b:Int):fo 78 [A (.sl 2 [[vI a],[vI b]])]=some (R (vI (B5 a b))):=by
 have h0:ltI 0 2=true:=rfl
 have h1:ltI 1 2=true:=rfl
 have h2:ltI 2 2=false:=rfl
 have w1:IntKind.i64.wrap 1=1:=rfl
 have w2:IntKind.i64.wrap 2=2:=rfl
 refine f7r 4 ?_
 cases ha:eqI a 0
 ·simp -dsimp [f78,C3,h0,ha,B5]
 ·cases hb:eqI b 0
  ·simp -dsimp [f78,C3,h0,h1,w1,ha,hb,B5]
  ·simp -dsimp [f78,C3,h0,h1,h2,w1,w2,ha,hb,B5]
   simp [eqI] at hb; exact hb.symm
theorem h2n (s:Step):fo 262 [A (.ipt (sT 219 s))]=some (R (vB (A1 (A1 (orB (eqI s.kind 2) (eqS s.name emp)) (orB (inR s.kind 5 8) (eqI s.arg 0))) (orB (eqI s.kind 7) (eqI s.expr.length 0))))):=by
 refine h9p 1 ?_
 simp +contextual -dsimp [f262,C8]
def W6 (k a:Int):Bool:=if eqI k 5 then inR a 0 9 else if eqI k 6 || eqI k 8 then inR a 1 99 else if eqI k 7 then inR a 0 3 else true
theorem f5o (s:Step):fo 266 [A (.ipt (sT 219 s))]=some (R (vB (W6 s.kind s.arg))):=by
 refine h9t 1 ?_
 cases h5:eqI s.kind 5
 ·cases h6:eqI s.kind 6
  ·cases h8:eqI s.kind 8
   ·cases h7:eqI s.kind 7
    ·simp -dsimp [f266,h5,h6,h8,h7,W6]
    ·simp -dsimp [f266,C8,h5,h6,h8,h7,W6]
   ·simp -dsimp [f266,C8,h5,h6,h8,W6]
  ·simp -dsimp [f266,C8,h5,h6,W6]
 ·simp -dsimp [f266,C8,h5,W6]
abbrev R2 (a b:T):Res:=⟨.tup [a,b],[],true⟩
def P8 (k:Int):Int × Int:=if eqI k 5 then (0,9) else if eqI k 6 || eqI k 8 then (1,99) else if eqI k 7 then (0,3) else (0,0)
theorem b4i (k:Int):fo 272 [A (vI k)]=some (R2 (vI (P8 k).1) (vI (P8 k).2)):=by
 refine h9y 1 ?_
 cases h5:eqI k 5
 ·cases h6:eqI k 6
  ·cases h8:eqI k 8
   ·cases h7:eqI k 7
    ·simp -dsimp [f272,h5,h6,h8,h7,P8]
    ·simp -dsimp [f272,h5,h6,h8,h7,P8]
   ·simp -dsimp [f272,h5,h6,h8,P8]
  ·simp -dsimp [f272,h5,h6,P8]
 ·simp -dsimp [f272,h5,P8]
def N8 (k:Int):Int × Int:=if eqI k 1 then (1,24) else if eqI k 3 || eqI k 4 then (2,24) else if eqI k 8 then (2,2) else (0,0)
theorem g5n (k:Int):fo 277 [A (vI k)]=some (R2 (vI (N8 k).1) (vI (N8 k).2)):=by
 refine i0c 1 ?_
 cases h5:eqI k 1
 ·cases h6:eqI k 3
  ·cases h8:eqI k 4
   ·cases h7:eqI k 8
    ·simp -dsimp [f277,h5,h6,h8,h7,N8]
    ·simp -dsimp [f277,h5,h6,h8,h7,N8]
   ·simp -dsimp [f277,h5,h6,h8,N8]
  ·simp -dsimp [f277,h5,h6,N8]
 ·simp -dsimp [f277,h5,N8]
def partB (k:Int):Int × Int:=if leI k 6 then (1,1) else if leI k 8 then (1,2) else (2,2)
theorem c2f (k:Int):fo 301 [A (vI k)]=some (R2 (vI (partB k).1) (vI (partB k).2)):=by
 refine i0s 1 ?_
 cases h5:leI k 6
 ·cases h6:leI k 8
  ·simp -dsimp [f301,h5,h6,partB]
  ·simp -dsimp [f301,h5,h6,partB]
 ·simp -dsimp [f301,h5,partB]
attribute [local simp] K2 K6 J4 K3 H7 J9 H8 G9 J1 G3
def a2w (n:Node) (i:Int):Int:=
 if A0 (inR n.kind 1 10)=true then 1
 else if orB (orB (A1 (leI n.kind 2) (orB (A0 (eqI n.left 0)) (A0 (eqI n.right 0)))) (A1 (A0 (leI n.kind 2)) (A0 (eqI n.value 0)))) (A1 (eqI n.kind 10) (A0 (eqI n.right 0)))=true then 1
 else if orB (A1 (eqI n.kind 1) (A0 (inR n.value 0 9999))) (A1 (eqI n.kind 2) (A0 (inR n.value 0 3)))=true then 3
 else if orB (A1 (A0 (leI n.kind 2)) (A0 (inR n.left 0 (i - 1)))) (A1 (inR n.kind 3 9) (A0 (inR n.right 0 (i - 1))))=true then 3
 else 0
theorem h2o (n:Node) (i:Int) (hi:0≤i) (hi2:i < 1000000):fo 294 [A (.ipt (nT n)),A (vI i)]=some (R (vI (a2w n i))):=by
 have hw:IntKind.i64.wrap (i - 1)=i - 1:=by rw [A5] <;> omega
 refine i0l 1 ?_
 simp (maxSteps:=1000000) +contextual -dsimp [f294,C8,a9f,a2w,hw]
def nodeFaultM (n:Node) (i:Int):Int:=
 if orB (eqI n.kind 1) (eqI n.kind 2)=true then
  B5 (if orB (A0 (eqI n.left 0)) (A0 (eqI n.right 0))=true then 1 else 0) (if A0 (inR n.value 0 (if eqI n.kind 2=true then 3 else 9999))=true then 3 else 0)
 else if eqI n.kind 10=true then
  B5 (if orB (A0 (eqI n.value 0)) (A0 (eqI n.right 0))=true then 1 else 0) (if A0 (inR n.left 0 (i - 1))=true then 3 else 0)
 else if inR n.kind 3 9=true then
  B5 (if A0 (eqI n.value 0)=true then 1 else 0) (if orB (A0 (inR n.left 0 (i - 1))) (A0 (inR n.right 0 (i - 1)))=true then 3 else 0)
 else 1
theorem g5o (n:Node) (i:Int) (hi:0≤i) (hi2:i < 1000000):fo 300 [A (.agg (nT n)),A (vI i)]=some (R (vI (nodeFaultM n i))):=by
 have hw:IntKind.i64.wrap (i - 1)=i - 1:=by rw [A5] <;> omega
 refine i0r 1 ?_
 cases h2:eqI n.kind 2
 ·cases h1:eqI n.kind 1
  ·cases h2:eqI n.kind 10
   ·cases h3:inR n.kind 3 9
    ·simp (maxSteps:=1000000) +contextual -dsimp [f300,a2i,nodeFaultM, *]
    ·simp (maxSteps:=1000000) +contextual -dsimp [f300,G1,a7n,a2i,U5,nodeFaultM, *]
   ·simp (maxSteps:=1000000) +contextual -dsimp [f300,G1,a7n,U5,nodeFaultM, *]
  ·simp (maxSteps:=1000000) +contextual -dsimp [f300,G1,a7n,U5,nodeFaultM, *]
 ·simp (maxSteps:=1000000) +contextual -dsimp [f300,G1,a7n,U5,nodeFaultM, *]
end Go.TM.Ft
namespace Go.TM.Ft
open Go Go.TM Go.Proofs Go.Proofs.Tryz
set_option maxRecDepth 20000
attribute [local congr] M0
structure Fits (s:Step):Prop where
 name:s.name.size < 2 ^ 62
 cond:s.cond.length < 2 ^ 62
 expr:s.expr.length < 2 ^ 62
theorem B7 (a:Int):eqI a a=true:=by simp [eqI]
def W0 (bs:List UInt8):Bool:=bs.all fun b=>inR b.toNat 97 122
theorem c2z (s:ByteArray):s.data.toList.length=s.size:=rfl
theorem f5p {s:ByteArray} {i:Nat} {b:UInt8} {rest:List UInt8} (h:s.data.toList.drop i=b::rest):i < s.size∧s[i]?=some b∧s.data.toList.drop (i+1)=rest:=by
 obtain ⟨h1,h2,h3⟩:=C6 h
 have h4:i < s.size:=by rw [← c2z]; exact h1
 refine ⟨h4,?_,h3⟩
 rw [getElem?_pos s i h4]
 simp only [ByteArray.getElem_eq_getElem_data]
 simpa using h2
theorem g0v (s:ByteArray) (hs:s.size < 2 ^ 62):∀ (rest:List UInt8) (i:Nat),s.data.toList.drop i=rest→
  A6 E (orc E) (298:Nat) (rest.length+1) (A8 f298 0) ⟨18,[(0,vS s),(1,.v (.func (.func (299:Nat)) #[] #[])),(7,vI s.size),(8,vI i)],[],2⟩=
  (if W0 rest=true then some (.exit 0,⟨18,[(0,vS s),(1,.v (.func (.func (299:Nat)) #[] #[])),(7,vI s.size),(8,vI (i+rest.length:Nat)),(9,vB false)],[],2⟩) else some (.ret,⟨18,[(4,vB false)],[],2⟩))
 | [],i,h=>by
  have hge:s.size≤i:=by rw [← c2z]; exact List.drop_eq_nil_iff.1 h
  have hlt:ltI (i:Int) (s.size:Int)=false:=B6 (by omega)
  rw [C3]
  simp +contextual -dsimp [f298,hlt,W0]
 | b::rest,i,h=>by
  obtain ⟨hi,hb,hr⟩:=f5p h
  have hlt:ltI (i:Int) (s.size:Int)=true:=C4 (by omega)
  have hw:IntKind.i64.wrap ((i:Int)+1)=((i+1:Nat):Int):=by rw [A5] <;> omega
  have hx:=g0u s i b (by omega) (by simpa using hb)
  have g:=g9e b.toNat
  cases c:inR b.toNat 97 122
  ·have hm:W0 (b::rest)=false:=by simp [W0,c]
   rw [hm,if_neg (by simp)]
   refine D3 ?_ (by simp)
   simp (maxSteps:=1000000) +contextual -dsimp [f298,hlt,hx,g,c]
  ·have hm:W0 (b::rest)=W0 rest:=by simp [W0,c]
   have ih:=g0v s hs rest (i+1) hr
   have he:i+1+rest.length=i+(rest.length+1):=by omega
   rw [he] at ih
   rw [hm]
   refine C1 ?_ (by simpa only [List.length_cons] using ih)
   simp (maxSteps:=1000000) +contextual -dsimp [f298,hlt,hx,hw,g,c]
theorem g4a (s:ByteArray) (hs:s.size < 2 ^ 62):fo 298 [A (vS s),A (.v (.func (.func (299:Nat)) #[] #[]))]=some (R (vB (W0 s.data.toList))):=by
 have hlp:=g0v s hs s.data.toList 0 rfl
 refine i0p (s.data.toList.length+1) ?_
 simp -dsimp [f298] at hlp
 cases c:W0 s.data.toList
 ·simp (maxSteps:=1000000) +contextual -dsimp [f298,hlp,c]
 ·simp (maxSteps:=1000000) +contextual -dsimp [f298,hlp,c]
def b3i (s:ByteArray):Int:=B5 (if orB (eqS s emp) (A0 (W0 s.data.toList))=true then 5 else 0) (if ltI 8 s.size=true then 2 else 0)
theorem g5p (s:ByteArray) (hs:s.size < 2 ^ 62):fo 275 [A (vS s)]=some (R (vI (b3i s))):=by
 have g:=g4a s hs
 refine i0b 1 ?_
 simp (maxSteps:=1000000) +contextual -dsimp [f275,g,a7n,U5,b3i]
attribute [local simp] K2 K6 J4 K3 H7 J9 H8 G9 J1 G3
abbrev iE (l:List Int):List (List T):=l.map fun n=>[vI n]
abbrev pR (v h:Nat) (list deep:List Int):Root:=⟨v,h,true,[.own 2 (iE list),.own 2 (iE deep)]⟩
def a1y (list:List Int) (parent:Int):Nat→Int→Int
 | 0,up=>up
 | f+1,up=>if ltI parent up=true then a1y list parent f (list.getD up.toNat (-1)) else up
def Tree (list:List Int):Prop:=∀ (k:Nat) (h:k < list.length),-1≤list[k]∧list[k] < k
theorem g0w (list deep:List Int) (parent:Int) (hp:-1≤parent) (ht:Tree list) (hl:list.length≤1000):∀ (f:Nat) (up:Int),up < f→up < list.length→
  A6 E (orc E) (273:Nat) (f+1) (A8 f273 0) ⟨75,[(0,.ptr 0 0 [] 0),(1,vI parent),(6,vI up)],[(0,pR 0 1 list deep)],2⟩=
  some (.exit 0,⟨75,[(0,.ptr 0 0 [] 0),(1,vI parent),(6,vI (a1y list parent f up)),(34,vB false)],[(0,pR 0 1 list deep)],2⟩)
 | 0,up,h,h2=>by
  have hlt:ltI parent up=false:=B6 (by omega)
  rw [C3]
  simp +contextual -dsimp [f273,hlt,a1y]
 | f+1,up,h,h2=>by
  cases hlt:ltI parent up
  ·rw [C3]
   simp +contextual -dsimp [f273,hlt,a1y]
  ·have hlt':parent < up:=by simpa [ltI] using hlt
   obtain ⟨k,rfl⟩:=Int.eq_ofNat_of_zero_le (show 0≤up by omega)
   have hk:k < list.length:=by omega
   obtain ⟨t1,t2⟩:=ht k hk
   have ih:=g0w list deep parent hp ht hl f list[k] (by omega) (by omega)
   have hm:a1y list parent (f+1) k=a1y list parent f list[k]:=by
    simp [a1y,hlt,hk]
   rw [hm]
   refine C1 ?_ ih
   simp (maxSteps:=1000000) +contextual -dsimp [f273,hlt,hk]
def a1d (list:List Int) (parent:Int):Bool:=orB (A1 (eqI list.length 0) (A0 (eqI parent (-1)))) (A1 (ltI 0 list.length) (A0 (inR parent 0 (list.length - 1))))
def a0a (deep:List Int) (parent:Int):Int:=if leI 0 parent=true then deep.getD parent.toNat 0+1 else 1
def L6 (list deep:List Int) (parent:Int):Int × List Int × List Int:=
 if a1d list parent=true then (3,list,deep)
 else if A0 (eqI (a1y list parent list.length (list.length - 1)) parent)=true then (1,list,deep)
 else (0,list++[parent],deep++[a0a deep parent])
abbrev d1a (list deep:List Int):Arg:=⟨.ptr 0 0 [] 0,some (pR 0 1 list deep)⟩
abbrev d1b (list deep:List Int):List (Nat × List T):=[(0,[.own 2 (iE list),.own 2 (iE deep)])]
theorem i4i (list deep:List Int) (parent:Int) (hp1:-9223372036854775808≤parent) (hp2:parent < 9223372036854775808) (ht:Tree list) (hl:list.length≤1000) (hd:deep.length=list.length)
  (hv:∀ d,d∈deep→0≤d∧d≤1000000):
  fo 273 [d1a list deep,A (vI parent)]=some ⟨vI (L6 list deep parent).1,d1b (L6 list deep parent).2.1 (L6 list deep parent).2.2,true⟩:=by
 have hw:IntKind.i64.wrap ((list.length:Int) - 1)=(list.length:Int) - 1:=by rw [A5] <;> omega
 have hm1:list.length+1≤C2:=by unfold C2; omega
 have hm2:deep.length+1≤C2:=by unfold C2; omega
 refine h9z (list.length+1) ?_
 cases c1:a1d list parent
 ·have hpr:-1≤parent∧parent < list.length∧¬ (parent=-1∧0 < list.length):=by
   simp only [a1d,orB,A1,A0,eqI,ltI,inR,leI,Bool.or_eq_false_iff,Bool.and_eq_false_iff,Bool.not_eq_false',beq_eq_false_iff_ne,beq_iff_eq,decide_eq_false_iff_not,decide_eq_true_eq,Bool.and_eq_true] at c1
   omega
  obtain ⟨p1,p2,p3⟩:=hpr
  have hlp:=g0w list deep parent p1 ht hl list.length ((list.length:Int) - 1) (by omega) (by omega)
  simp -dsimp [f273] at hlp
  cases c2:eqI (a1y list parent list.length (list.length - 1)) parent
  ·simp only [a1d] at c1
   simp (maxSteps:=1000000) +contextual -dsimp [f273,G1,hw,hlp,c1,c2,L6,a1d]
  ·cases c3:leI 0 parent
   ·simp only [a1d] at c1
    simp (maxSteps:=1000000) +contextual -dsimp [f273,G1,hw,hlp,c1,c2,c3,hm1,hm2,L6,a1d,a0a]
   ·simp only [a1d] at c1
    have h0:0≤parent:=by simpa [leI] using c3
    obtain ⟨k,rfl⟩:=Int.eq_ofNat_of_zero_le h0
    have hk:k < deep.length:=by omega
    have hb:=hv deep[k] (List.getElem_mem hk)
    have hw2:IntKind.i64.wrap (deep[k]+1)=deep[k]+1:=by rw [A5] <;> omega
    simp (maxSteps:=1000000) +contextual -dsimp [f273,G1,hw,hlp,c1,c2,c3,hm1,hm2,hk,hw2,L6,a1d,a0a]
 ·simp only [a1d] at c1
  simp (maxSteps:=1000000) +contextual -dsimp [f273,G1,hw,c1,L6,a1d]
def N4:Nat→List Node→Int
 | _,[]=>0
 | i,n::r=>if A0 (eqI (nodeFaultM n i) 0)=true then nodeFaultM n i else N4 (i+1) r
theorem f5q (all:List Node) (hall:all.length≤16):∀ (rest:List Node) (i:Nat),all.drop i=rest→
  A6 E (orc E) (276:Nat) (rest.length+1) (A8 f276 0) ⟨112,[(0,nS 219 all),(16,nS 219 all),(17,vI all.length),(18,vI i)],[],2⟩=
  (if eqI (N4 i rest) 0=true then some (.exit 0,⟨112,[(0,nS 219 all),(16,nS 219 all),(17,vI all.length),(18,vI (i+rest.length:Nat)),(19,vB false)],[],2⟩) else some (.ret,⟨112,[(2,vI (N4 i rest))],[],2⟩))
 | [],i,h=>by
  have hge:all.length≤i:=by simpa using h
  have hlt:ltI (i:Int) (all.length:Int)=false:=B6 (by omega)
  rw [C3]
  simp +contextual -dsimp [f276,hlt,N4,B7]
 | n::rest,i,h=>by
  obtain ⟨hi,hc,hr⟩:=C6 h
  have hlt:ltI (i:Int) (all.length:Int)=true:=C4 (by omega)
  have hw:IntKind.i64.wrap ((i:Int)+1)=((i+1:Nat):Int):=by rw [A5] <;> omega
  have he:i+1+rest.length=i+(rest.length+1):=by omega
  have g:=g5o n i (by omega) (by omega)
  cases c:eqI (nodeFaultM n i) 0
  ·have hm:N4 i (n::rest)=nodeFaultM n i:=by simp [N4,c,A0]
   rw [hm,c,if_neg (by simp)]
   refine D3 ?_ (by simp)
   simp (maxSteps:=1000000) +contextual -dsimp [f276,hlt,hi,hc,g,c,List.set]
  ·have ih:=f5q all hall rest (i+1) hr
   rw [he] at ih
   have hm:N4 i (n::rest)=N4 (i+1) rest:=by simp [N4,c,A0]
   rw [hm]
   refine C1 ?_ (by simpa only [List.length_cons] using ih)
   simp (maxSteps:=1000000) +contextual -dsimp [f276,hlt,hi,hc,hw,g,c,List.set]
def b9r (n:Node) (i:Nat):Prop:=(eqI n.kind 10=true→0≤n.left∧n.left < i)∧(eqI n.kind 10=false→inR n.kind 3 9=true→0≤n.left∧n.left < i∧0≤n.right∧n.right < i)
def A4 (sizes:List Int) (k:Int):Int:=sizes.getD k.toNat 0
def a8a (n:Node) (i:Int) (sizes:List Int) (wrong:Bool):Bool:=
 if eqI n.kind 10=true then orB wrong (A0 (eqI n.left (i - 1)))
 else if inR n.kind 3 9=true then orB (orB wrong (A0 (eqI n.right (i - 1)))) (A0 (eqI n.left (i - 1 - A4 sizes n.right)))
 else wrong
def a4r (n:Node) (sizes:List Int):Int:=
 if eqI n.kind 10=true then 1+A4 sizes n.left
 else if inR n.kind 3 9=true then 1+(A4 sizes n.left+A4 sizes n.right)
 else 1
def P5:List Node→Nat→List Int→Bool→List Int × Bool
 | [],_,sizes,wrong=>(sizes,wrong)
 | n::r,i,sizes,wrong=>P5 r (i+1) (sizes++[a4r n sizes]) (a8a n i sizes wrong)
theorem f5r {sizes:List Int} {B:Int} (hB:0≤B) (hb:∀ x,x∈sizes→0≤x∧x≤B) (k:Int):0≤A4 sizes k∧A4 sizes k≤B:=by
 unfold A4
 rcases Nat.lt_or_ge k.toNat sizes.length with h | h
 ·rw [List.getD_eq_getElem?_getD,List.getElem?_eq_getElem h]
  exact hb _ (List.getElem_mem h)
 ·rw [List.getD_eq_getElem?_getD,List.getElem?_eq_none h]
  exact ⟨Int.le_refl _,hB⟩
theorem f5s (all:List Node) (hall:all.length≤16):∀ (rest:List Node) (i:Nat) (sizes:List Int) (wrong:Bool),all.drop i=rest→sizes.length=i→(∀ x,x∈sizes→0≤x∧x≤(4:Int) ^ i)→
  (∀ (k:Nat) (n:Node),rest[k]?=some n→b9r n (i+k))→
  A6 E (orc E) (276:Nat) (rest.length+1) (A8 f276 1) ⟨112,[(0,nS 219 all),(6,.ref 6 1 [] 0 sizes.length),(7,vB wrong),(31,nS 219 all),(32,vI all.length),(33,vI i)],[(6,⟨1,1,false,[.own 2 (iE sizes)]⟩)],2⟩=
  some (.exit 2,⟨112,[(0,nS 219 all),(6,.ref 6 1 [] 0 (P5 rest i sizes wrong).1.length),(7,vB (P5 rest i sizes wrong).2),(31,nS 219 all),(32,vI all.length),(33,vI (i+rest.length:Nat)),(34,vB false)],[(6,⟨1,1,false,[.own 2 (iE (P5 rest i sizes wrong).1)]⟩)],2⟩)
 | [],i,sizes,wrong,h,hs,hb,ho=>by
  have hge:all.length≤i:=by simpa using h
  have hlt:ltI (i:Int) (all.length:Int)=false:=B6 (by omega)
  rw [C3]
  simp +contextual -dsimp [f276,hlt,P5]
 | n::rest,i,sizes,wrong,h,hs,hb,ho=>by
  obtain ⟨hi,hc,hr⟩:=C6 h
  have hlt:ltI (i:Int) (all.length:Int)=true:=C4 (by omega)
  have hw:IntKind.i64.wrap ((i:Int)+1)=((i+1:Nat):Int):=by rw [A5] <;> omega
  have hw1:IntKind.i64.wrap ((i:Int) - 1)=(i:Int) - 1:=by rw [A5] <;> omega
  have he:i+1+rest.length=i+(rest.length+1):=by omega
  have hm1:sizes.length+1≤C2:=by unfold C2; omega
  have hp:(4:Int) ^ i≤4294967296:=by
   have h1:=Nat.pow_le_pow_right (n:=4) (by omega) (show i≤16 by omega)
   have h2:((4:Int) ^ i)=((4 ^ i:Nat):Int):=by simp
   rw [h2]; omega
  have hp0:(0:Int) < 4 ^ i:=Int.pow_pos (by omega)
  have hp1:(4:Int) ^ (i+1)=4*4 ^ i:=by rw [Int.pow_succ]; omega
  have bl:=f5r (by omega) hb n.left
  have br:=f5r (by omega) hb n.right
  obtain ⟨o1,o2⟩:=ho 0 n (by simp)
  have hsz:0≤a4r n sizes∧a4r n sizes≤4 ^ (i+1):=by
   unfold a4r
   rw [hp1]
   split
   ·omega
   ·split <;> omega
  have ih:=f5s all hall rest (i+1) (sizes++[a4r n sizes]) (a8a n i sizes wrong) hr (by simp; omega) (fun x hx=>by
   rcases List.mem_append.1 hx with hx | hx
   ·have:=hb x hx; omega
   ·simp only [List.mem_singleton] at hx; subst hx; exact hsz) (fun k m hk=>by
   have:=ho (k+1) m (by simpa using hk)
   have e:i+1+k=i+(k+1):=by omega
   rw [e]; exact this)
  rw [he] at ih
  refine C1 ?_ (by simpa only [List.length_cons,P5] using ih)
  cases c1:eqI n.kind 10
  ·cases c2:inR n.kind 3 9
   ·simp (maxSteps:=1000000) +contextual -dsimp [f276,a2i,hlt,hi,hc,hw,hw1,hm1,c1,c2,a4r,a8a,List.set]
   ·obtain ⟨p1,p2,p3,p4⟩:=o2 c1 c2
    obtain ⟨l,hl⟩:=Int.eq_ofNat_of_zero_le p1
    obtain ⟨r,hr'⟩:=Int.eq_ofNat_of_zero_le p3
    have hl2:l < sizes.length:=by omega
    have hr2:r < sizes.length:=by omega
    have e1:A4 sizes (l:Int)=sizes[l]:=by simp [A4,hl2]
    have e2:A4 sizes (r:Int)=sizes[r]:=by simp [A4,hr2]
    rw [hl,e1] at bl
    rw [hr',e2] at br
    have w1:IntKind.i64.wrap (sizes[l]+sizes[r])=sizes[l]+sizes[r]:=by rw [A5] <;> omega
    have w2:IntKind.i64.wrap (1+(sizes[l]+sizes[r]))=1+(sizes[l]+sizes[r]):=by rw [A5] <;> omega
    have w3:IntKind.i64.wrap ((i:Int) - 1 - sizes[r])=(i:Int) - 1 - sizes[r]:=by rw [A5] <;> omega
    simp (maxSteps:=1000000) +contextual -dsimp [f276,a2i,hlt,hi,hc,hw,hw1,hm1,c1,c2,hl,hr',hl2,hr2,e1,e2,w1,w2,w3,a4r,a8a,List.set]
  ·obtain ⟨p1,p2⟩:=o1 c1
   obtain ⟨l,hl⟩:=Int.eq_ofNat_of_zero_le p1
   have hl2:l < sizes.length:=by omega
   have e1:A4 sizes (l:Int)=sizes[l]:=by simp [A4,hl2]
   rw [hl,e1] at bl
   have w1:IntKind.i64.wrap (1+sizes[l])=1+sizes[l]:=by rw [A5] <;> omega
   simp (maxSteps:=1000000) +contextual -dsimp [f276,hlt,hi,hc,hw,hw1,hm1,c1,hl,hl2,e1,w1,a4r,a8a,List.set]
theorem O1 {a b:Int} (h:B5 a b=0):a=0∧b=0:=by
 unfold B5 at h
 split at h
 ·rename_i c; simp [eqI] at c; exact ⟨c,h⟩
 ·rename_i c; simp [eqI] at c; exact absurd h c
theorem g4p {n:Node} {i:Nat} (h:nodeFaultM n i=0):b9r n i:=by
 unfold nodeFaultM at h
 refine ⟨fun h10=>?_,fun h10 h39=>?_⟩
 ·have e:n.kind=10:=by simpa [eqI] using h10
  rw [if_neg (by simp [orB,eqI,e]),if_pos h10] at h
  have:=(O1 h).2
  split at this
  ·simp at this
  ·rename_i hc
   simp [A0,inR,A1,leI] at hc
   omega
 ·have e:3≤n.kind∧n.kind≤9:=by simpa [inR,A1,leI] using h39
  rw [if_neg (by simp [orB,eqI]; omega),if_neg (by rw [h10]; simp),if_pos h39] at h
  have:=(O1 h).2
  split at this
  ·simp at this
  ·rename_i hc
   simp [A0,inR,A1,leI,orB] at hc
   omega
theorem c5b:∀ {l:List Node} {i:Nat},N4 i l=0→∀ (k:Nat) (n:Node),l[k]?=some n→b9r n (i+k)
 | [],i,_,k,n,h=>by simp at h
 | x::l,i,hz,k,n,h=>by
  unfold N4 at hz
  split at hz
  ·rename_i hc
   rw [hz] at hc; simp [A0,eqI] at hc
  ·rename_i hc
   have h0:nodeFaultM x i=0:=by simpa [A0,eqI] using hc
   cases k with
   | zero=>simp at h; subst h; exact g4p h0
   | succ k=>
    have:=c5b hz k n (by simpa using h)
    have e:i+1+k=i+(k+1):=by omega
    rw [← e]; exact this
theorem e0j:∀ (l:List Node) (i:Nat) (sizes:List Int) (w:Bool),(P5 l i sizes w).1.length=sizes.length+l.length
 | [],_,_,_=>by simp [P5]
 | n::l,i,sizes,w=>by simp only [P5]; rw [e0j]; simp; omega
def a0h (l:List Node):Int:=
 if A0 (inR l.length 1 16)=true then 2
 else if A0 (eqI (N4 0 l) 0)=true then N4 0 l
 else if orB (P5 l 0 [] false).2 (A0 (eqI (A4 (P5 l 0 [] false).1 (l.length - 1)) l.length))=true then 1 else 0
theorem c1k (l:List Node) (hl:l.length < 2 ^ 62):fo 276 [A (nS 219 l)]=some (R (vI (a0h l))):=by
 cases c1:inR l.length 1 16
 ·refine e4j 1 ?_
  simp (maxSteps:=1000000) +contextual -dsimp [f276,G1,c1,a0h]
 ·have hl2:1≤l.length∧l.length≤16:=by simp [inR,A1,leI] at c1; omega
  refine e4j (l.length+1) ?_
  have ha:=f5q l hl2.2 l 0 rfl
  simp -dsimp [f276] at ha
  cases c2:eqI (N4 0 l) 0
  ·rw [c2] at ha
   simp (maxSteps:=1000000) +contextual -dsimp [f276,G1,c1,c2,ha,a0h]
  ·have hb:=f5s l hl2.2 l 0 [] false rfl rfl (by simp) (c5b (by simpa [eqI] using c2))
   rw [c2] at ha
   simp -dsimp [f276] at hb
   have hlen:=e0j l 0 [] false
   simp at hlen
   have hlt:l.length - 1 < (P5 l 0 [] false).1.length:=by omega
   have hw:IntKind.i64.wrap ((l.length:Int) - 1)=((l.length - 1:Nat):Int):=by rw [A5] <;> omega
   have e1:A4 (P5 l 0 [] false).1 ((l.length:Int) - 1)=(P5 l 0 [] false).1[l.length - 1]:=by
    have:((l.length:Int) - 1).toNat=l.length - 1:=by omega
    simp [A4,this,hlt]
   simp (maxSteps:=1000000) +contextual -dsimp [f276,G1,a7n,c1,c2,ha,hb,hw,hlt,e1,a0h]
def a7d (n:Node) (types:List Int):Bool:=
 orB (A1 (ltI 2 n.kind) (A0 (eqI (A4 types n.left) (partB n.kind).1))) (A1 (inR n.kind 3 9) (A0 (eqI (A4 types n.right) (partB n.kind).1)))
def L4:List Node→List Int→Bool × List Int
 | [],acc=>(true,acc)
 | n::r,acc=>if a7d n acc=true then (false,acc) else L4 r (acc++[(partB n.kind).2])
abbrev b1e (a b:Int):Root:=⟨1,1,true,[vI a,vI b]⟩
theorem g0x (all:List Node) (hall:all.length≤16):∀ (rest:List Node) (i:Nat) (acc:List Int),all.drop i=rest→acc.length=i→
    (∀ (k:Nat) (n:Node),rest[k]?=some n→ltI 2 n.kind=true→(0≤n.left∧n.left < (i+k:Nat))∧(inR n.kind 3 9=true→0≤n.right∧n.right < (i+k:Nat)))→
    A6 E (orc E) (279:Nat) (rest.length+1) (A8 f279 0) ⟨67,[(2,.ptr 2 1 [] 0),(4,.ref 4 1 [] 0 acc.length),(16,nS 219 all),(17,vI all.length),(18,vI i)],[(2,b1e 0 0),(4,⟨1,1,false,[.own 2 (iE acc)]⟩)],2⟩=
    (if (L4 rest acc).1 = true then some (.exit 0, ⟨67, [(2, .ptr 2 1 [] 0), (4, .ref 4 1 [] 0 (L4 rest acc).2.length), (16, nS 219 all), (17, vI all.length), (18, vI (i + rest.length : Nat)), (19, vB false)], [(2, b1e 0 0), (4, ⟨1, 1, false, [.own 2 (iE (L4 rest acc).2)]⟩)], 2⟩)
     else some (.ret,⟨67,[(2,.ptr 2 1 [] 0)],[(2,b1e 7 0),(4,⟨1,1,false,[.own 2 (iE (L4 rest acc).2)]⟩)],2⟩))
  | [],i,acc,h,hs,ho=>by
    have hge:all.length≤i:=by simpa using h
    have hlt:ltI (i:Int) (all.length:Int)=false:=B6 (by omega)
    rw [C3]
    simp +contextual -dsimp [f279,hlt,L4]
  | n::rest,i,acc,h,hs,ho=>by
    obtain ⟨hi,hc,hr⟩:=C6 h
    have hlt:ltI (i:Int) (all.length:Int)=true:=C4 (by omega)
    have hw:IntKind.i64.wrap ((i:Int)+1)=((i+1:Nat):Int):=by rw [A5] <;> omega
    have he:i+1+rest.length=i+(rest.length+1):=by omega
    have hm1:acc.length+1≤C2:=by unfold C2; omega
    have ih:=g0x all hall rest (i+1) (acc++[(partB n.kind).2]) hr (by simp; omega) (fun k m hk=>by
      have:=ho (k+1) m (by simpa using hk)
      have e:i+1+k=i+(k+1):=by omega
      rw [e]; exact this)
    rw [he] at ih
    have ho':=ho 0 n (by simp)
    have step:(a7d n acc=false→C0 E (orc E) (279:Nat) (A6 E (orc E) (279:Nat) (rest.length+1)) (A8 f279 0) ⟨67,[(2,.ptr 2 1 [] 0),(4,.ref 4 1 [] 0 acc.length),(16,nS 219 all),(17,vI all.length),(18,vI i)],[(2,b1e 0 0),(4,⟨1,1,false,[.own 2 (iE acc)]⟩)],2⟩=
        some (.normal,⟨67,[(2,.ptr 2 1 [] 0),(4,.ref 4 1 [] 0 (acc++[(partB n.kind).2]).length),(16,nS 219 all),(17,vI all.length),(18,vI (i+1:Nat))],[(2,b1e 0 0),(4,⟨1,1,false,[.own 2 (iE (acc++[(partB n.kind).2]))]⟩)],2⟩))∧
        (a7d n acc=true→C0 E (orc E) (279:Nat) (A6 E (orc E) (279:Nat) (rest.length+1)) (A8 f279 0) ⟨67,[(2,.ptr 2 1 [] 0),(4,.ref 4 1 [] 0 acc.length),(16,nS 219 all),(17,vI all.length),(18,vI i)],[(2,b1e 0 0),(4,⟨1,1,false,[.own 2 (iE acc)]⟩)],2⟩=
        some (.ret,⟨67,[(2,.ptr 2 1 [] 0)],[(2,b1e 7 0),(4,⟨1,1,false,[.own 2 (iE acc)]⟩)],2⟩)):=by
      unfold a7d
      cases c1:ltI 2 n.kind
      · have c2 : inR n.kind 3 9 = false := by simp [ltI, inR, A1, leI] at c1 ⊢; omega
        refine ⟨fun _=>?_,fun hb=>by rw [c2] at hb; simp [orB,A1] at hb⟩
        simp (maxSteps:=1000000) +contextual -dsimp [f279,a2i,c2f,hlt,hi,hc,hw,hm1,c1,c2,List.set]
      · obtain ⟨⟨p1, p2⟩, p3⟩ := ho' c1
        obtain ⟨l,hl⟩:=Int.eq_ofNat_of_zero_le p1
        have hl2:l < acc.length:=by omega
        have e1:A4 acc (l:Int)=acc[l]:=by simp [A4,hl2]
        rw [hl,e1]
        cases c2:inR n.kind 3 9
        · refine ⟨fun hb => ?_, fun hb => ?_⟩
          all_goals
            simp only [a9h,b5s,b6f] at hb
            simp (maxSteps:=1000000) +contextual -dsimp [f279,a2i,c2f,hlt,hi,hc,hw,hm1,c1,c2,hl,hl2,hb,List.set]
        · obtain ⟨p4, p5⟩ := p3 c2
          obtain ⟨r,hr'⟩:=Int.eq_ofNat_of_zero_le p4
          have hr2:r < acc.length:=by omega
          have e2:A4 acc (r:Int)=acc[r]:=by simp [A4,hr2]
          rw [hr',e2]
          refine ⟨fun hb=>?_,fun hb=>?_⟩
          all_goals
            simp only [a9h] at hb
            simp (maxSteps:=1000000) +contextual -dsimp [f279,a2i,c2f,hlt,hi,hc,hw,hm1,c1,c2,hl,hl2,hr',hr2,hb,List.set]
    cases cb:a7d n acc
    · have hm : L4 (n :: rest) acc = L4 rest (acc ++ [(partB n.kind).2]) := by simp [L4, cb]
      rw [hm]
      exact C1 (step.1 cb) (by simpa only [List.length_cons] using ih)
    · have hm : L4 (n :: rest) acc = (false, acc) := by simp [L4, cb]
      rw [hm,if_neg (by simp)]
      exact D3 (step.2 cb) (by simp)
theorem d6m:∀ (l:List Node) (acc:List Int),(L4 l acc).1=true→(L4 l acc).2.length=acc.length+l.length
 | [],acc,_=>by simp [L4]
 | n::l,acc,h=>by
  unfold L4 at h ⊢
  split at h
  ·simp at h
  ·rename_i hc
   rw [if_neg hc]
   rw [d6m l _ h]; simp; omega
abbrev RI (c v:Int):Res:=⟨.agg [vI c,vI v],[],true⟩
def a2c (l:List Node):Int × Int:=
 if A0 (eqI (a0h l) 0)=true then (a0h l,0)
 else if (L4 l []).1=true then (0,A4 (L4 l []).2 (l.length - 1)) else (7,0)
theorem g4q {n:Node} {i:Nat} (h:b9r n i) (hk:nodeFaultM n i=0) (h2:ltI 2 n.kind=true):(0≤n.left∧n.left < (i:Nat))∧(inR n.kind 3 9=true→0≤n.right∧n.right < (i:Nat)):=by
 obtain ⟨h10,h39⟩:=h
 have g2:2 < n.kind:=by simpa [ltI] using h2
 by_cases e10:n.kind=10
 ·have a:=h10 (by simp [eqI,e10])
  exact ⟨a,fun hc=>by simp [inR,A1,leI] at hc; omega⟩
 ·have f10:eqI n.kind 10=false:=by simp [eqI,e10]
  by_cases e39:inR n.kind 3 9=true
  ·obtain ⟨a,b,c,d⟩:=h39 f10 e39
   exact ⟨⟨a,b⟩,fun _=>⟨c,d⟩⟩
  ·exfalso
   unfold nodeFaultM at hk
   rw [if_neg (by simp [orB,eqI]; omega),if_neg (by rw [f10]; simp),if_neg e39] at hk
   simp at hk
theorem c3a:∀ {l:List Node} {i:Nat},N4 i l=0→∀ (k:Nat) (n:Node),l[k]?=some n→nodeFaultM n (i+k:Nat)=0
 | [],i,_,k,n,h=>by simp at h
 | x::l,i,hz,k,n,h=>by
  unfold N4 at hz
  split at hz
  ·rename_i hc
   rw [hz] at hc; simp [A0,eqI] at hc
  ·rename_i hc
   have h0:nodeFaultM x i=0:=by simpa [A0,eqI] using hc
   cases k with
   | zero=>simp at h; subst h; exact h0
   | succ k=>
    have:=c3a hz k n (by simpa using h)
    have e:i+1+k=i+(k+1):=by omega
    rw [← e]; exact this
theorem d6n {l:List Node} (h:a0h l=0):1≤l.length∧l.length≤16∧N4 0 l=0:=by
 unfold a0h at h
 split at h
 ·simp at h
 ·rename_i c1
  split at h
  ·rename_i c2; rw [h] at c2; simp [A0,eqI] at c2
  ·rename_i c2
   simp [A0,inR,A1,leI] at c1
   simp [A0,eqI] at c2
   omega
theorem h2p (l:List Node) (hl:l.length < 2 ^ 62):fo 279 [A (nS 219 l)]=some (RI (a2c l).1 (a2c l).2):=by
 have g:=c1k l hl
 cases c1:eqI (a0h l) 0
 ·refine e4k 1 ?_
  simp (maxSteps:=1000000) +contextual -dsimp [f279,g,c1,a2c,List.set]
 ·obtain ⟨h1,h2,h3⟩:=d6n (by simpa [eqI] using c1)
  have e0:a0h l=0:=by simpa [eqI] using c1
  have hlp:=g0x l h2 l 0 [] rfl rfl (fun k n hk h2=>by
   simpa using g4q (c5b h3 k n hk) (c3a h3 k n hk) h2)
  refine e4k (l.length+1) ?_
  simp -dsimp [f279] at hlp
  cases c2:(L4 l []).1
  ·rw [c2] at hlp
   simp (maxSteps:=1000000) +contextual -dsimp [f279,g,e0,c2,hlp,a2c,B7,List.set]
  ·rw [c2] at hlp
   have hlen:=d6m l [] c2
   simp at hlen
   have hlt:l.length - 1 < (L4 l []).2.length:=by omega
   have hlt2:l.length - 1 < l.length:=by omega
   have hw:IntKind.i64.wrap ((l.length:Int) - 1)=((l.length - 1:Nat):Int):=by rw [A5] <;> omega
   have e1:A4 (L4 l []).2 ((l.length:Int) - 1)=(L4 l []).2[l.length - 1]:=by
    have:((l.length:Int) - 1).toNat=l.length - 1:=by omega
    simp [A4,this,hlt]
   simp (maxSteps:=1000000) +contextual -dsimp [f279,g,e0,c2,hlp,hlen,hw,hlt2,e1,a2c,B7,List.set]
end Go.TM.Ft
