/- What functions of the program come to, by the machine. -/
import Derived.Test.YtlmiemdojgahaaaGreatME
set_option linter.unusedSimpArgs false
set_option linter.unusedVariables false
set_option maxHeartbeats 1000000
namespace Go.TM.Ft
open Go Go.TM Go.Proofs Go.Proofs.Tryz
set_option maxRecDepth 20000
abbrev vI (n:Int):T:=.v (.int .i64 n)
abbrev vB (b:Bool):T:=.v (.bool b)
abbrev vS (s:ByteArray):T:=.v (.string s)
abbrev A (t:T):Arg:=⟨t,none⟩
abbrev R (t:T):Res:=⟨t,[],true⟩
def A0 (a b:Int):Bool:=a==b
def B5 (a b:Int):Bool:=decide (a≤b)
def A3 (a b:Int):Bool:=decide (a<b)
def W4 (a b:Bool):Bool:=a==b
def kG (a b:ByteArray):Bool:=a.toList==b.toList
theorem b7s {a b:Int} (h:a≤b):B5 a b=true:=by simp[B5,h]
theorem e1u {a b:Int} (h:¬ a≤b):B5 a b=false:=by simp[B5];omega
theorem F5 {a b:Int} (h:a<b):A3 a b=true:=by simp[A3,h]
theorem C9 {a b:Int} (h:¬ a<b):A3 a b=false:=by simp[A3];omega
theorem qU (a:ByteArray):kG a a=true:=by simp[kG]
section pr
variable (P:Program) (t:TypeId) (x y:Operand)
theorem d4b (k:IntKind) (a b:Int):H7 P (do eqGuard .leq t x y (.int k a) (.int k b);binOp .leq t (.int k a) (.int k b))=some (.bool (B5 a b)):=by cases k<;>rfl
theorem e6g (k:IntKind) (a b:Int):H7 P (do eqGuard .lss t x y (.int k a) (.int k b);binOp .lss t (.int k a) (.int k b))=some (.bool (A3 a b)):=by cases k<;>rfl
theorem e8f (k:IntKind) (a b:Int):H7 P (do eqGuard .gtr t x y (.int k a) (.int k b);binOp .gtr t (.int k a) (.int k b))=some (.bool (A3 b a)):=by cases k<;>rfl
theorem d5c (k:IntKind) (a b:Int):H7 P (do eqGuard .geq t x y (.int k a) (.int k b);binOp .geq t (.int k a) (.int k b))=some (.bool (B5 b a)):=by cases k<;>rfl
theorem d9y (k:IntKind) (a b:Int):H7 P (do eqGuard .eql t x y (.int k a) (.int k b);binOp .eql t (.int k a) (.int k b))=some (.bool (A0 a b)):=by cases k<;>rfl
theorem e9e (k:IntKind) (a b:Int):H7 P (do eqGuard .neq t x y (.int k a) (.int k b);binOp .neq t (.int k a) (.int k b))=some (.bool (A2 (A0 a b))):=by cases k<;>rfl
theorem d6j (k:IntKind) (a b:Int):H7 P (do eqGuard .add t x y (.int k a) (.int k b);binOp .add t (.int k a) (.int k b))=some (.int k (k.wrap (a+b))):=by cases k<;>rfl
theorem f1s (k:IntKind) (a b:Int):H7 P (do eqGuard .sub t x y (.int k a) (.int k b);binOp .sub t (.int k a) (.int k b))=some (.int k (k.wrap (a - b))):=by cases k<;>rfl
theorem f2u (a b:Bool):H7 Tryz.prog (do eqGuard .eql 4 x y (.bool a) (.bool b);binOp .eql 4 (.bool a) (.bool b))=some (.bool (W4 a b)):=by kernel_rfl
theorem e9o (a b:Bool):H7 Tryz.prog (do eqGuard .neq 4 x y (.bool a) (.bool b);binOp .neq 4 (.bool a) (.bool b))=some (.bool (A2 (W4 a b))):=by kernel_rfl
theorem e5h (a b:ByteArray):H7 P (do eqGuard .eql t x y (.string a) (.string b);binOp .eql t (.string a) (.string b))=some (.bool (kG a b)):=rfl
theorem e4x (a b:ByteArray):H7 P (do eqGuard .neq t x y (.string a) (.string b);binOp .neq t (.string a) (.string b))=some (.bool (A2 (kG a b))):=rfl
theorem Yx (s:ByteArray) (i:Int) (b:UInt8) (h:0≤i) (hb:s[i.toNat]?=some b):H7 Tryz.prog (Instr.index 9 (.string s) (.int .i64 i))=some (.int .u8 b.toNat):=by
 have h1:Tryz.prog.underlying 9=some .string:=by kernel_rfl
 simp[Instr.index,asIntOf,underlying,program,H7,Sem.bind,Bind.bind,Pure.pure,h1,h,hb]
theorem d5u (s:ByteArray):H7 Tryz.prog (Builtin.len_ #[9] t #[.string s])=some (.int .i64 s.size):=by kernel_rfl
theorem f3h (a:Bool):H7 P (Op.unary .not (.bool a))=some (.bool (A2 a)):=rfl
end pr
attribute [simp] Zw b0f a9o a9p c4v Wl a4b c5d a6w a3y c2o a3q Wp a8m c2c c7r b0j c4q b3g Zj a3h a4g Zv b7x b0t a3n a1i Ys a8a b5a Wv gC gH dI gR bA K7 C4 Rd.of Rd.bind Rd.run Rd.touched St.val lk up lF cK St.apply setsOk setsApart eP newOk setCells G6 strike nJ It only hZ S7 wU qR hG fZ uO finish rV qY Bn qG rP oE iC uN clean U9 K1 kZ
 E_P mT lends iU nM Dk yT gT nxt d4b e6g e8f d5c d9y e9e d6j f1s f3h f2u e9o e5h e4x d5u xR xV vA aF iO oX vT sZ Kq kN far Gu mC kJ sN tZ vK dY qM lI jD iR eY pO oF cH R4 V2 Q9 Eff.with
 b9x b5h Zt b2j Ay b5e a6p b0u c4p rJ yG Ca Dv c1h c8x c4a b5m a2j b8r c5i b4h b5f a7m b0p a8c a0w c1e b8z a0k a6r a9a c8k c6y a1x a9b a2f b6j a1e a3i
 content mJ lQ pJ kY pA Hs bG bJ lP oC pU sX nA aJ descend N3 Y6 viewFrom Hc sC jQ dL bare H4 kS zP dJ uR wJ stamp sQ uC dQ vP fC rW tE Root.at_ newOk
 C1 oB eK nP without args zS aZ oneVal rR wF vL G9 D9 T.cells
attribute [local congr] O3
def A5 (n low high:Int):Bool:=A6 (B5 low n) (B5 n high)
theorem H5 (a b c:Int):fo 131 [A (vI a),A (vI b),A (vI c)]=some (R (vB (A5 a b c))):=by
 refine e8a 1 ?_
 simp +contextual -dsimp [f131,A5]
theorem nR (b:Bool) (c:Int):fo 114 [A (vB b),A (vI c)]=some (R (vI (if b then c else 0))):=by
 refine e2k 1 ?_
 cases b<;>simp -dsimp [f114]
theorem G0 (a b c:Int):fo 109 [A (vI a),A (vI b),A (vI c)]=some (R (vB (A5 a b c))):=by
 refine d3i 1 ?_
 simp +contextual -dsimp [f109,A5]
theorem pQ (a:Int):fo 306 [A (vI a)]=some (R (vB (A5 a 3 9))):=by
 refine e8c 1 ?_
 simp -dsimp [f306,G0]
theorem eS (a:Int):fo 281 [A (vI a)]=some (R (vB (A5 a 3 9))):=by
 refine e4z 1 ?_
 simp -dsimp [f281,H5]
theorem e2j (c:Int):fo 299 [A (.v (.int .u8 c))]=some (R (vB (A5 c 97 122))):=by
 refine d5m 1 ?_
 simp +contextual -dsimp [f299,A5]
structure Node where
 kind:Int
 value:Int
 left:Int
 right:Int
structure Step where
 kind:Int
 parent:Int
 name:ByteArray
 arg:Int
 cond:List Node
 expr:List Node
abbrev nT (n:Node):List T:=[vI n.kind,vI n.value,vI n.left,vI n.right]
abbrev nS (e:TypeId) (l:List Node):T:=.sl e (l.map nT)
abbrev sT (e:TypeId) (s:Step):List T:=[vI s.kind,vI s.parent,vS s.name,vI s.arg,nS e s.cond,nS e s.expr]
abbrev cU:ByteArray:=⟨#[]⟩
def C5 (a b:Int):Int:=if A0 a 0 then b else a
theorem Y8 (a b:Int):fo 78 [A (.sl 2 [[vI a],[vI b]])]=some (R (vI (C5 a b))):=by
 have h0:A3 0 2=true:=rfl
 have h1:A3 1 2=true:=rfl
 have h2:A3 2 2=false:=rfl
 have w1:IntKind.i64.wrap 1=1:=rfl
 have w2:IntKind.i64.wrap 2=2:=rfl
 refine Nz 4 ?_
 cases ha:A0 a 0
 ·simp -dsimp [f78,D5,h0,ha,C5]
 ·cases hb:A0 b 0
  ·simp -dsimp [f78,D5,h0,h1,w1,ha,hb,C5]
  ·simp -dsimp [f78,D5,h0,h1,h2,w1,w2,ha,hb,C5]
   simp[A0] at hb;exact hb.symm
theorem d7l (s:Step):fo 262 [A (.ipt (sT 219 s))]=some (R (vB (A6 (A6 (A7 (A0 s.kind 2) (kG s.name cU)) (A7 (A5 s.kind 5 8) (A0 s.arg 0))) (A7 (A0 s.kind 7) (A0 s.expr.length 0))))):=by
 refine d3z 1 ?_
 simp +contextual -dsimp [f262,G0]
def aY (k a:Int):Bool:=if A0 k 5 then A5 a 0 9 else if A0 k 6||A0 k 8 then A5 a 1 99 else if A0 k 7 then A5 a 0 3 else true
theorem b4t (s:Step):fo 266 [A (.ipt (sT 219 s))]=some (R (vB (aY s.kind s.arg))):=by
 refine d8d 1 ?_
 cases h5:A0 s.kind 5
 ·cases h6:A0 s.kind 6
  ·cases h8:A0 s.kind 8
   ·cases h7:A0 s.kind 7
    ·simp -dsimp [f266,h5,h6,h8,h7,aY]
    ·simp -dsimp [f266,G0,h5,h6,h8,h7,aY]
   ·simp -dsimp [f266,G0,h5,h6,h8,aY]
  ·simp -dsimp [f266,G0,h5,h6,aY]
 ·simp -dsimp [f266,G0,h5,aY]
abbrev R2 (a b:T):Res:=⟨.tup [a,b],[],true⟩
def X9 (k:Int):Int×Int:=if A0 k 5 then (0,9) else if A0 k 6||A0 k 8 then (1,99) else if A0 k 7 then (0,3) else (0,0)
theorem Bh (k:Int):fo 272 [A (vI k)]=some (R2 (vI (X9 k).1) (vI (X9 k).2)):=by
 refine d8i 1 ?_
 cases h5:A0 k 5
 ·cases h6:A0 k 6
  ·cases h8:A0 k 8
   ·cases h7:A0 k 7
    ·simp -dsimp [f272,h5,h6,h8,h7,X9]
    ·simp -dsimp [f272,h5,h6,h8,h7,X9]
   ·simp -dsimp [f272,h5,h6,h8,X9]
  ·simp -dsimp [f272,h5,h6,X9]
 ·simp -dsimp [f272,h5,X9]
def T3 (k:Int):Int×Int:=if A0 k 1 then (1,24) else if A0 k 3||A0 k 4 then (2,24) else if A0 k 8 then (2,2) else (0,0)
theorem d8x (k:Int):fo 277 [A (vI k)]=some (R2 (vI (T3 k).1) (vI (T3 k).2)):=by
 refine d2o 1 ?_
 cases h5:A0 k 1
 ·cases h6:A0 k 3
  ·cases h8:A0 k 4
   ·cases h7:A0 k 8
    ·simp -dsimp [f277,h5,h6,h8,h7,T3]
    ·simp -dsimp [f277,h5,h6,h8,h7,T3]
   ·simp -dsimp [f277,h5,h6,h8,T3]
  ·simp -dsimp [f277,h5,h6,T3]
 ·simp -dsimp [f277,h5,T3]
def partB (k:Int):Int×Int:=if B5 k 6 then (1,1) else if B5 k 8 then (1,2) else (2,2)
theorem Ov (k:Int):fo 301 [A (vI k)]=some (R2 (vI (partB k).1) (vI (partB k).2)):=by
 refine e7j 1 ?_
 cases h5:B5 k 6
 ·cases h6:B5 k 8
  ·simp -dsimp [f301,h5,h6,partB]
  ·simp -dsimp [f301,h5,h6,partB]
 ·simp -dsimp [f301,h5,partB]
attribute [local simp] L9 M4 K0 L6 J6 L4 J8 J1 K5 I6
def gL (n:Node) (i:Int):Int:=
 if A2 (A5 n.kind 1 10)=true then 1
 else if A7 (A7 (A6 (B5 n.kind 2) (A7 (A2 (A0 n.left 0)) (A2 (A0 n.right 0)))) (A6 (A2 (B5 n.kind 2)) (A2 (A0 n.value 0)))) (A6 (A0 n.kind 10) (A2 (A0 n.right 0)))=true then 1
 else if A7 (A6 (A0 n.kind 1) (A2 (A5 n.value 0 9999))) (A6 (A0 n.kind 2) (A2 (A5 n.value 0 3)))=true then 3
 else if A7 (A6 (A2 (B5 n.kind 2)) (A2 (A5 n.left 0 (i - 1)))) (A6 (A5 n.kind 3 9) (A2 (A5 n.right 0 (i - 1))))=true then 3
 else 0
theorem e1n (n:Node) (i:Int) (hi:0≤i) (F8:i<1000000):fo 294 [A (.ipt (nT n)),A (vI i)]=some (R (vI (gL n i))):=by
 have hw:IntKind.i64.wrap (i - 1)=i - 1:=by rw[B6]<;>omega
 refine e6n 1 ?_
 simp (maxSteps:=1000000) +contextual -dsimp [f294,G0,pQ,gL,hw]
def nodeFaultM (n:Node) (i:Int):Int:=
 if A7 (A0 n.kind 1) (A0 n.kind 2)=true then
  C5 (if A7 (A2 (A0 n.left 0)) (A2 (A0 n.right 0))=true then 1 else 0) (if A2 (A5 n.value 0 (if A0 n.kind 2=true then 3 else 9999))=true then 3 else 0)
 else if A0 n.kind 10=true then
  C5 (if A7 (A2 (A0 n.value 0)) (A2 (A0 n.right 0))=true then 1 else 0) (if A2 (A5 n.left 0 (i - 1))=true then 3 else 0)
 else if A5 n.kind 3 9=true then
  C5 (if A2 (A0 n.value 0)=true then 1 else 0) (if A7 (A2 (A5 n.left 0 (i - 1))) (A2 (A5 n.right 0 (i - 1)))=true then 3 else 0)
 else 1
theorem d9f (n:Node) (i:Int) (hi:0≤i) (F8:i<1000000):fo 300 [A (.agg (nT n)),A (vI i)]=some (R (vI (nodeFaultM n i))):=by
 have hw:IntKind.i64.wrap (i - 1)=i - 1:=by rw[B6]<;>omega
 refine d8f 1 ?_
 cases h2:A0 n.kind 2
 ·cases h1:A0 n.kind 1
  ·cases h2:A0 n.kind 10
   ·cases h3:A5 n.kind 3 9
    ·simp (maxSteps:=1000000) +contextual -dsimp [f300,eS,nodeFaultM, *]
    ·simp (maxSteps:=1000000) +contextual -dsimp [f300,H5,nR,eS,Y8,nodeFaultM, *]
   ·simp (maxSteps:=1000000) +contextual -dsimp [f300,H5,nR,Y8,nodeFaultM, *]
  ·simp (maxSteps:=1000000) +contextual -dsimp [f300,H5,nR,Y8,nodeFaultM, *]
 ·simp (maxSteps:=1000000) +contextual -dsimp [f300,H5,nR,Y8,nodeFaultM, *]
end Go.TM.Ft
namespace Go.TM.Ft
open Go Go.TM Go.Proofs Go.Proofs.Tryz
set_option maxRecDepth 20000
attribute [local congr] O3
structure Fits (s:Step):Prop where
 name:s.name.size<2 ^ 62
 cond:s.cond.length<2 ^ 62
 expr:s.expr.length<2 ^ 62
theorem D2 (a:Int):A0 a a=true:=by simp[A0]
def aX (bs:List UInt8):Bool:=bs.all fun b=>A5 b.toNat 97 122
theorem Rk (s:ByteArray):s.data.toList.length=s.size:=rfl
theorem Yc {s:ByteArray} {i:Nat} {b:UInt8} {rest:List UInt8} (h:s.data.toList.drop i=b::rest):i<s.size∧s[i]?=some b∧s.data.toList.drop (i+1)=rest:=by
 obtain⟨h1,h2,h3⟩:=F6 h
 have h4:i<s.size:=by rw[←Rk];exact h1
 refine⟨h4,?_,h3⟩
 rw[getElem?_pos s i h4]
 simp only[ByteArray.getElem_eq_getElem_data]
 simpa using h2
theorem c9q (s:ByteArray) (hs:s.size<2 ^ 62):∀ (rest:List UInt8) (i:Nat),s.data.toList.drop i=rest→
  B7 E (orc E) (298:Nat) (rest.length+1) (C1 f298 0) ⟨18,[(0,vS s),(1,.v (.func (.func (299:Nat)) #[] #[])),(7,vI s.size),(8,vI i)],[],2⟩=
  (if aX rest=true then some (.exit 0,⟨18,[(0,vS s),(1,.v (.func (.func (299:Nat)) #[] #[])),(7,vI s.size),(8,vI (i+rest.length:Nat)),(9,vB false)],[],2⟩) else some (.ret,⟨18,[(4,vB false)],[],2⟩))
 | [],i,h=>by
  have G5:s.size≤i:=by rw[←Rk];exact List.drop_eq_nil_iff.1 h
  have A1:A3 (i:Int) (s.size:Int)=false:=C9 (by omega)
  rw[D5]
  simp +contextual -dsimp [f298,A1,aX]
 | b::rest,i,h=>by
  obtain⟨hi,hb,hr⟩:=Yc h
  have A1:A3 (i:Int) (s.size:Int)=true:=F5 (by omega)
  have hw:IntKind.i64.wrap ((i:Int)+1)=((i+1:Nat):Int):=by rw[B6]<;>omega
  have hx:=Yx s i b (by omega) (by simpa using hb)
  have g:=e2j b.toNat
  cases c:A5 b.toNat 97 122
  ·have hm:aX (b::rest)=false:=by simp[aX,c]
   rw[hm,if_neg (by simp)]
   refine G3 ?_ (by simp)
   simp (maxSteps:=1000000) +contextual -dsimp [f298,A1,hx,g,c]
  ·have hm:aX (b::rest)=aX rest:=by simp[aX,c]
   have ih:=c9q s hs rest (i+1) hr
   have he:i+1+rest.length=i+(rest.length+1):=by omega
   rw[he] at ih
   rw[hm]
   refine D6 ?_ (by simpa only[List.length_cons] using ih)
   simp (maxSteps:=1000000) +contextual -dsimp [f298,A1,hx,hw,g,c]
theorem d5z (s:ByteArray) (hs:s.size<2 ^ 62):fo 298 [A (vS s),A (.v (.func (.func (299:Nat)) #[] #[]))]=some (R (vB (aX s.data.toList))):=by
 have A4:=c9q s hs s.data.toList 0 rfl
 refine d8g (s.data.toList.length+1) ?_
 simp -dsimp [f298] at A4
 cases c:aX s.data.toList
 ·simp (maxSteps:=1000000) +contextual -dsimp [f298,A4,c]
 ·simp (maxSteps:=1000000) +contextual -dsimp [f298,A4,c]
def vQ (s:ByteArray):Int:=C5 (if A7 (kG s cU) (A2 (aX s.data.toList))=true then 5 else 0) (if A3 8 s.size=true then 2 else 0)
theorem d0h (s:ByteArray) (hs:s.size<2 ^ 62):fo 275 [A (vS s)]=some (R (vI (vQ s))):=by
 have g:=d5z s hs
 refine d3f 1 ?_
 simp (maxSteps:=1000000) +contextual -dsimp [f275,g,nR,Y8,vQ]
attribute [local simp] L9 M4 K0 L6 J6 L4 J8 J1 K5 I6
abbrev iE (l:List Int):List (List T):=l.map fun n=>[vI n]
abbrev pR (v h:Nat) (list deep:List Int):Root:=⟨v,h,true,[.own 2 (iE list),.own 2 (iE deep)]⟩
def dS (list:List Int) (parent:Int):Nat→Int→Int
 | 0,up=>up
 | f+1,up=>if A3 parent up=true then dS list parent f (list.getD up.toNat (-1)) else up
def Tree (list:List Int):Prop:=∀ (k:Nat) (h:k<list.length),-1≤list[k]∧list[k]<k
theorem c5f (list deep:List Int) (parent:Int) (hp:-1≤parent) (ht:Tree list) (hl:list.length≤1000):∀ (f:Nat) (up:Int),up<f→up<list.length→
  B7 E (orc E) (273:Nat) (f+1) (C1 f273 0) ⟨75,[(0,.ptr 0 0 [] 0),(1,vI parent),(6,vI up)],[(0,pR 0 1 list deep)],2⟩=
  some (.exit 0,⟨75,[(0,.ptr 0 0 [] 0),(1,vI parent),(6,vI (dS list parent f up)),(34,vB false)],[(0,pR 0 1 list deep)],2⟩)
 | 0,up,h,h2=>by
  have A1:A3 parent up=false:=C9 (by omega)
  rw[D5]
  simp +contextual -dsimp [f273,A1,dS]
 | f+1,up,h,h2=>by
  cases A1:A3 parent up
  ·rw[D5]
   simp +contextual -dsimp [f273,A1,dS]
  ·have hlt':parent<up:=by simpa[A3] using A1
   obtain⟨k,rfl⟩:=Int.eq_ofNat_of_zero_le (show 0≤up by omega)
   have hk:k<list.length:=by omega
   obtain⟨t1,t2⟩:=ht k hk
   have ih:=c5f list deep parent hp ht hl f list[k] (by omega) (by omega)
   have hm:dS list parent (f+1) k=dS list parent f list[k]:=by
    simp[dS,A1,hk]
   rw[hm]
   refine D6 ?_ ih
   simp (maxSteps:=1000000) +contextual -dsimp [f273,A1,hk]
def dC (list:List Int) (parent:Int):Bool:=A7 (A6 (A0 list.length 0) (A2 (A0 parent (-1)))) (A6 (A3 0 list.length) (A2 (A5 parent 0 (list.length - 1))))
def bE (deep:List Int) (parent:Int):Int:=if B5 0 parent=true then deep.getD parent.toNat 0+1 else 1
def R0 (list deep:List Int) (parent:Int):Int×List Int×List Int:=
 if dC list parent=true then (3,list,deep)
 else if A2 (A0 (dS list parent list.length (list.length - 1)) parent)=true then (1,list,deep)
 else (0,list++[parent],deep++[bE deep parent])
abbrev Nv (list deep:List Int):Arg:=⟨.ptr 0 0 [] 0,some (pR 0 1 list deep)⟩
abbrev Ol (list deep:List Int):List (Nat×List T):=[(0,[.own 2 (iE list),.own 2 (iE deep)])]
theorem f2g (list deep:List Int) (parent:Int) (Gx:-9223372036854775808≤parent) (Ha:parent<9223372036854775808) (ht:Tree list) (hl:list.length≤1000) (hd:deep.length=list.length)
  (hv:∀ d,d∈deep→0≤d∧d≤1000000):
  fo 273 [Nv list deep,A (vI parent)]=some ⟨vI (R0 list deep parent).1,Ol (R0 list deep parent).2.1 (R0 list deep parent).2.2,true⟩:=by
 have hw:IntKind.i64.wrap ((list.length:Int) - 1)=(list.length:Int) - 1:=by rw[B6]<;>omega
 have H9:list.length+1≤D0:=by unfold D0;omega
 have aO:deep.length+1≤D0:=by unfold D0;omega
 refine f2x (list.length+1) ?_
 cases c1:dC list parent
 ·have lA:-1≤parent∧parent<list.length∧¬ (parent=-1∧0<list.length):=by
   simp only[dC,A7,A6,A2,A0,A3,A5,B5,Bool.or_eq_false_iff,Bool.and_eq_false_iff,Bool.not_eq_false',beq_eq_false_iff_ne,beq_iff_eq,decide_eq_false_iff_not,decide_eq_true_eq,Bool.and_eq_true] at c1
   omega
  obtain⟨p1,p2,p3⟩:=lA
  have A4:=c5f list deep parent p1 ht hl list.length ((list.length:Int) - 1) (by omega) (by omega)
  simp -dsimp [f273] at A4
  cases c2:A0 (dS list parent list.length (list.length - 1)) parent
  ·simp only[dC] at c1
   simp (maxSteps:=1000000) +contextual -dsimp [f273,H5,hw,A4,c1,c2,R0,dC]
  ·cases c3:B5 0 parent
   ·simp only[dC] at c1
    simp (maxSteps:=1000000) +contextual -dsimp [f273,H5,hw,A4,c1,c2,c3,H9,aO,R0,dC,bE]
   ·simp only[dC] at c1
    have h0:0≤parent:=by simpa[B5] using c3
    obtain⟨k,rfl⟩:=Int.eq_ofNat_of_zero_le h0
    have hk:k<deep.length:=by omega
    have hb:=hv deep[k] (List.getElem_mem hk)
    have Q2:IntKind.i64.wrap (deep[k]+1)=deep[k]+1:=by rw[B6]<;>omega
    simp (maxSteps:=1000000) +contextual -dsimp [f273,H5,hw,A4,c1,c2,c3,H9,aO,hk,Q2,R0,dC,bE]
 ·simp only[dC] at c1
  simp (maxSteps:=1000000) +contextual -dsimp [f273,H5,hw,c1,R0,dC]
def T0:Nat→List Node→Int
 | _,[]=>0
 | i,n::r=>if A2 (A0 (nodeFaultM n i) 0)=true then nodeFaultM n i else T0 (i+1) r
theorem b1b (all:List Node) (B9:all.length≤16):∀ (rest:List Node) (i:Nat),all.drop i=rest→
  B7 E (orc E) (276:Nat) (rest.length+1) (C1 f276 0) ⟨112,[(0,nS 219 all),(16,nS 219 all),(17,vI all.length),(18,vI i)],[],2⟩=
  (if A0 (T0 i rest) 0=true then some (.exit 0,⟨112,[(0,nS 219 all),(16,nS 219 all),(17,vI all.length),(18,vI (i+rest.length:Nat)),(19,vB false)],[],2⟩) else some (.ret,⟨112,[(2,vI (T0 i rest))],[],2⟩))
 | [],i,h=>by
  have G5:all.length≤i:=by simpa using h
  have A1:A3 (i:Int) (all.length:Int)=false:=C9 (by omega)
  rw[D5]
  simp +contextual -dsimp [f276,A1,T0,D2]
 | n::rest,i,h=>by
  obtain⟨hi,hc,hr⟩:=F6 h
  have A1:A3 (i:Int) (all.length:Int)=true:=F5 (by omega)
  have hw:IntKind.i64.wrap ((i:Int)+1)=((i+1:Nat):Int):=by rw[B6]<;>omega
  have he:i+1+rest.length=i+(rest.length+1):=by omega
  have g:=d9f n i (by omega) (by omega)
  cases c:A0 (nodeFaultM n i) 0
  ·have hm:T0 i (n::rest)=nodeFaultM n i:=by simp[T0,c,A2]
   rw[hm,c,if_neg (by simp)]
   refine G3 ?_ (by simp)
   simp (maxSteps:=1000000) +contextual -dsimp [f276,A1,hi,hc,g,c,List.set]
  ·have ih:=b1b all B9 rest (i+1) hr
   rw[he] at ih
   have hm:T0 i (n::rest)=T0 (i+1) rest:=by simp[T0,c,A2]
   rw[hm]
   refine D6 ?_ (by simpa only[List.length_cons] using ih)
   simp (maxSteps:=1000000) +contextual -dsimp [f276,A1,hi,hc,hw,g,c,List.set]
def Hb (n:Node) (i:Nat):Prop:=(A0 n.kind 10=true→0≤n.left∧n.left<i)∧(A0 n.kind 10=false→A5 n.kind 3 9=true→0≤n.left∧n.left<i∧0≤n.right∧n.right<i)
def B4 (sizes:List Int) (k:Int):Int:=sizes.getD k.toNat 0
def oH (n:Node) (i:Int) (sizes:List Int) (wrong:Bool):Bool:=
 if A0 n.kind 10=true then A7 wrong (A2 (A0 n.left (i - 1)))
 else if A5 n.kind 3 9=true then A7 (A7 wrong (A2 (A0 n.right (i - 1)))) (A2 (A0 n.left (i - 1 - B4 sizes n.right)))
 else wrong
def jG (n:Node) (sizes:List Int):Int:=
 if A0 n.kind 10=true then 1+B4 sizes n.left
 else if A5 n.kind 3 9=true then 1+(B4 sizes n.left+B4 sizes n.right)
 else 1
def X7:List Node→Nat→List Int→Bool→List Int×Bool
 | [],_,sizes,wrong=>(sizes,wrong)
 | n::r,i,sizes,wrong=>X7 r (i+1) (sizes++[jG n sizes]) (oH n i sizes wrong)
theorem b8x {sizes:List Int} {B:Int} (hB:0≤B) (hb:∀ x,x∈sizes→0≤x∧x≤B) (k:Int):0≤B4 sizes k∧B4 sizes k≤B:=by
 unfold B4
 rcases Nat.lt_or_ge k.toNat sizes.length with h | h
 ·rw[List.getD_eq_getElem?_getD,List.getElem?_eq_getElem h]
  exact hb _ (List.getElem_mem h)
 ·rw[List.getD_eq_getElem?_getD,List.getElem?_eq_none h]
  exact⟨Int.le_refl _,hB⟩
theorem a9r (all:List Node) (B9:all.length≤16):∀ (rest:List Node) (i:Nat) (sizes:List Int) (wrong:Bool),all.drop i=rest→sizes.length=i→(∀ x,x∈sizes→0≤x∧x≤(4:Int) ^ i)→
  (∀ (k:Nat) (n:Node),rest[k]?=some n→Hb n (i+k))→
  B7 E (orc E) (276:Nat) (rest.length+1) (C1 f276 1) ⟨112,[(0,nS 219 all),(6,.ref 6 1 [] 0 sizes.length),(7,vB wrong),(31,nS 219 all),(32,vI all.length),(33,vI i)],[(6,⟨1,1,false,[.own 2 (iE sizes)]⟩)],2⟩=
  some (.exit 2,⟨112,[(0,nS 219 all),(6,.ref 6 1 [] 0 (X7 rest i sizes wrong).1.length),(7,vB (X7 rest i sizes wrong).2),(31,nS 219 all),(32,vI all.length),(33,vI (i+rest.length:Nat)),(34,vB false)],[(6,⟨1,1,false,[.own 2 (iE (X7 rest i sizes wrong).1)]⟩)],2⟩)
 | [],i,sizes,wrong,h,hs,hb,ho=>by
  have G5:all.length≤i:=by simpa using h
  have A1:A3 (i:Int) (all.length:Int)=false:=C9 (by omega)
  rw[D5]
  simp +contextual -dsimp [f276,A1,X7]
 | n::rest,i,sizes,wrong,h,hs,hb,ho=>by
  obtain⟨hi,hc,hr⟩:=F6 h
  have A1:A3 (i:Int) (all.length:Int)=true:=F5 (by omega)
  have hw:IntKind.i64.wrap ((i:Int)+1)=((i+1:Nat):Int):=by rw[B6]<;>omega
  have T7:IntKind.i64.wrap ((i:Int) - 1)=(i:Int) - 1:=by rw[B6]<;>omega
  have he:i+1+rest.length=i+(rest.length+1):=by omega
  have H9:sizes.length+1≤D0:=by unfold D0;omega
  have hp:(4:Int) ^ i≤4294967296:=by
   have h1:=Nat.pow_le_pow_right (n:=4) (by omega) (show i≤16 by omega)
   have h2:((4:Int) ^ i)=((4 ^ i:Nat):Int):=by simp
   rw[h2];omega
  have lN:(0:Int)<4 ^ i:=Int.pow_pos (by omega)
  have Gx:(4:Int) ^ (i+1)=4*4 ^ i:=by rw[Int.pow_succ];omega
  have bl:=b8x (by omega) hb n.left
  have br:=b8x (by omega) hb n.right
  obtain⟨o1,o2⟩:=ho 0 n (by simp)
  have C7:0≤jG n sizes∧jG n sizes≤4 ^ (i+1):=by
   unfold jG
   rw[Gx]
   split
   ·omega
   ·split<;>omega
  have ih:=a9r all B9 rest (i+1) (sizes++[jG n sizes]) (oH n i sizes wrong) hr (by simp;omega) (fun x hx=>by
   rcases List.mem_append.1 hx with hx | hx
   ·have:=hb x hx;omega
   ·simp only[List.mem_singleton] at hx;subst hx;exact C7) (fun k m hk=>by
   have:=ho (k+1) m (by simpa using hk)
   have e:i+1+k=i+(k+1):=by omega
   rw[e];exact this)
  rw[he] at ih
  refine D6 ?_ (by simpa only[List.length_cons,X7] using ih)
  cases c1:A0 n.kind 10
  ·cases c2:A5 n.kind 3 9
   ·simp (maxSteps:=1000000) +contextual -dsimp [f276,eS,A1,hi,hc,hw,T7,H9,c1,c2,jG,oH,List.set]
   ·obtain⟨p1,p2,p3,p4⟩:=o2 c1 c2
    obtain⟨l,hl⟩:=Int.eq_ofNat_of_zero_le p1
    obtain⟨r,hr'⟩:=Int.eq_ofNat_of_zero_le p3
    have M7:l<sizes.length:=by omega
    have S0:r<sizes.length:=by omega
    have e1:B4 sizes (l:Int)=sizes[l]:=by simp[B4,M7]
    have e2:B4 sizes (r:Int)=sizes[r]:=by simp[B4,S0]
    rw[hl,e1] at bl
    rw[hr',e2] at br
    have w1:IntKind.i64.wrap (sizes[l]+sizes[r])=sizes[l]+sizes[r]:=by rw[B6]<;>omega
    have w2:IntKind.i64.wrap (1+(sizes[l]+sizes[r]))=1+(sizes[l]+sizes[r]):=by rw[B6]<;>omega
    have w3:IntKind.i64.wrap ((i:Int) - 1 - sizes[r])=(i:Int) - 1 - sizes[r]:=by rw[B6]<;>omega
    simp (maxSteps:=1000000) +contextual -dsimp [f276,eS,A1,hi,hc,hw,T7,H9,c1,c2,hl,hr',M7,S0,e1,e2,w1,w2,w3,jG,oH,List.set]
  ·obtain⟨p1,p2⟩:=o1 c1
   obtain⟨l,hl⟩:=Int.eq_ofNat_of_zero_le p1
   have M7:l<sizes.length:=by omega
   have e1:B4 sizes (l:Int)=sizes[l]:=by simp[B4,M7]
   rw[hl,e1] at bl
   have w1:IntKind.i64.wrap (1+sizes[l])=1+sizes[l]:=by rw[B6]<;>omega
   simp (maxSteps:=1000000) +contextual -dsimp [f276,A1,hi,hc,hw,T7,H9,c1,hl,M7,e1,w1,jG,oH,List.set]
theorem P9 {a b:Int} (h:C5 a b=0):a=0∧b=0:=by
 unfold C5 at h
 split at h
 ·rename_i c;simp[A0] at c;exact⟨c,h⟩
 ·rename_i c;simp[A0] at c;exact absurd h c
theorem d2n {n:Node} {i:Nat} (h:nodeFaultM n i=0):Hb n i:=by
 unfold nodeFaultM at h
 refine⟨fun cB=>?_,fun cB vY=>?_⟩
 ·have e:n.kind=10:=by simpa[A0] using cB
  rw[if_neg (by simp[A7,A0,e]),if_pos cB] at h
  have:=(P9 h).2
  split at this
  ·simp at this
  ·rename_i hc
   simp[A2,A5,A6,B5] at hc
   omega
 ·have e:3≤n.kind∧n.kind≤9:=by simpa[A5,A6,B5] using vY
  rw[if_neg (by simp[A7,A0];omega),if_neg (by rw[cB];simp),if_pos vY] at h
  have:=(P9 h).2
  split at this
  ·simp at this
  ·rename_i hc
   simp[A2,A5,A6,B5,A7] at hc
   omega
theorem Ir:∀ {l:List Node} {i:Nat},T0 i l=0→∀ (k:Nat) (n:Node),l[k]?=some n→Hb n (i+k)
 | [],i,_,k,n,h=>by simp at h
 | x::l,i,hz,k,n,h=>by
  unfold T0 at hz
  split at hz
  ·rename_i hc
   rw[hz] at hc;simp[A2,A0] at hc
  ·rename_i hc
   have h0:nodeFaultM x i=0:=by simpa[A2,A0] using hc
   cases k with
   | zero=>simp at h;subst h;exact d2n h0
   | succ k=>
    have:=Ir hz k n (by simpa using h)
    have e:i+1+k=i+(k+1):=by omega
    rw[←e];exact this
theorem b6p:∀ (l:List Node) (i:Nat) (sizes:List Int) (w:Bool),(X7 l i sizes w).1.length=sizes.length+l.length
 | [],_,_,_=>by simp[X7]
 | n::l,i,sizes,w=>by simp only[X7];rw[b6p];simp;omega
def bI (l:List Node):Int:=
 if A2 (A5 l.length 1 16)=true then 2
 else if A2 (A0 (T0 0 l) 0)=true then T0 0 l
 else if A7 (X7 l 0 [] false).2 (A2 (A0 (B4 (X7 l 0 [] false).1 (l.length - 1)) l.length))=true then 1 else 0
theorem My (l:List Node) (hl:l.length<2 ^ 62):fo 276 [A (nS 219 l)]=some (R (vI (bI l))):=by
 cases c1:A5 l.length 1 16
 ·refine Zf 1 ?_
  simp (maxSteps:=1000000) +contextual -dsimp [f276,H5,c1,bI]
 ·have M7:1≤l.length∧l.length≤16:=by simp[A5,A6,B5] at c1;omega
  refine Zf (l.length+1) ?_
  have ha:=b1b l M7.2 l 0 rfl
  simp -dsimp [f276] at ha
  cases c2:A0 (T0 0 l) 0
  ·rw[c2] at ha
   simp (maxSteps:=1000000) +contextual -dsimp [f276,H5,c1,c2,ha,bI]
  ·have hb:=a9r l M7.2 l 0 [] false rfl rfl (by simp) (Ir (by simpa[A0] using c2))
   rw[c2] at ha
   simp -dsimp [f276] at hb
   have D7:=b6p l 0 [] false
   simp at D7
   have A1:l.length - 1<(X7 l 0 [] false).1.length:=by omega
   have hw:IntKind.i64.wrap ((l.length:Int) - 1)=((l.length - 1:Nat):Int):=by rw[B6]<;>omega
   have e1:B4 (X7 l 0 [] false).1 ((l.length:Int) - 1)=(X7 l 0 [] false).1[l.length - 1]:=by
    have:((l.length:Int) - 1).toNat=l.length - 1:=by omega
    simp[B4,this,A1]
   simp (maxSteps:=1000000) +contextual -dsimp [f276,H5,nR,c1,c2,ha,hb,hw,A1,e1,bI]
def nH (n:Node) (types:List Int):Bool:=
 A7 (A6 (A3 2 n.kind) (A2 (A0 (B4 types n.left) (partB n.kind).1))) (A6 (A5 n.kind 3 9) (A2 (A0 (B4 types n.right) (partB n.kind).1)))
def R1:List Node→List Int→Bool×List Int
 | [],acc=>(true,acc)
 | n::r,acc=>if nH n acc=true then (false,acc) else R1 r (acc++[(partB n.kind).2])
abbrev tS (a b:Int):Root:=⟨1,1,true,[vI a,vI b]⟩
theorem c0i (all:List Node) (B9:all.length≤16):∀ (rest:List Node) (i:Nat) (acc:List Int),all.drop i=rest→acc.length=i→
    (∀ (k:Nat) (n:Node),rest[k]?=some n→A3 2 n.kind=true→(0≤n.left∧n.left<(i+k:Nat))∧(A5 n.kind 3 9=true→0≤n.right∧n.right<(i+k:Nat)))→
    B7 E (orc E) (279:Nat) (rest.length+1) (C1 f279 0) ⟨67,[(2,.ptr 2 1 [] 0),(4,.ref 4 1 [] 0 acc.length),(16,nS 219 all),(17,vI all.length),(18,vI i)],[(2,tS 0 0),(4,⟨1,1,false,[.own 2 (iE acc)]⟩)],2⟩=
    (if (R1 rest acc).1 = true then some (.exit 0, ⟨67, [(2, .ptr 2 1 [] 0), (4, .ref 4 1 [] 0 (R1 rest acc).2.length), (16, nS 219 all), (17, vI all.length), (18, vI (i + rest.length : Nat)), (19, vB false)], [(2, tS 0 0), (4, ⟨1, 1, false, [.own 2 (iE (R1 rest acc).2)]⟩)], 2⟩)
     else some (.ret,⟨67,[(2,.ptr 2 1 [] 0)],[(2,tS 7 0),(4,⟨1,1,false,[.own 2 (iE (R1 rest acc).2)]⟩)],2⟩))
  | [],i,acc,h,hs,ho=>by
    have G5:all.length≤i:=by simpa using h
    have A1:A3 (i:Int) (all.length:Int)=false:=C9 (by omega)
    rw[D5]
    simp +contextual -dsimp [f279,A1,R1]
  | n::rest,i,acc,h,hs,ho=>by
    obtain⟨hi,hc,hr⟩:=F6 h
    have A1:A3 (i:Int) (all.length:Int)=true:=F5 (by omega)
    have hw:IntKind.i64.wrap ((i:Int)+1)=((i+1:Nat):Int):=by rw[B6]<;>omega
    have he:i+1+rest.length=i+(rest.length+1):=by omega
    have H9:acc.length+1≤D0:=by unfold D0;omega
    have ih:=c0i all B9 rest (i+1) (acc++[(partB n.kind).2]) hr (by simp;omega) (fun k m hk=>by
      have:=ho (k+1) m (by simpa using hk)
      have e:i+1+k=i+(k+1):=by omega
      rw[e];exact this)
    rw[he] at ih
    have ho':=ho 0 n (by simp)
    have step:(nH n acc=false→D3 E (orc E) (279:Nat) (B7 E (orc E) (279:Nat) (rest.length+1)) (C1 f279 0) ⟨67,[(2,.ptr 2 1 [] 0),(4,.ref 4 1 [] 0 acc.length),(16,nS 219 all),(17,vI all.length),(18,vI i)],[(2,tS 0 0),(4,⟨1,1,false,[.own 2 (iE acc)]⟩)],2⟩=
        some (.normal,⟨67,[(2,.ptr 2 1 [] 0),(4,.ref 4 1 [] 0 (acc++[(partB n.kind).2]).length),(16,nS 219 all),(17,vI all.length),(18,vI (i+1:Nat))],[(2,tS 0 0),(4,⟨1,1,false,[.own 2 (iE (acc++[(partB n.kind).2]))]⟩)],2⟩))∧
        (nH n acc=true→D3 E (orc E) (279:Nat) (B7 E (orc E) (279:Nat) (rest.length+1)) (C1 f279 0) ⟨67,[(2,.ptr 2 1 [] 0),(4,.ref 4 1 [] 0 acc.length),(16,nS 219 all),(17,vI all.length),(18,vI i)],[(2,tS 0 0),(4,⟨1,1,false,[.own 2 (iE acc)]⟩)],2⟩=
        some (.ret,⟨67,[(2,.ptr 2 1 [] 0)],[(2,tS 7 0),(4,⟨1,1,false,[.own 2 (iE acc)]⟩)],2⟩)):=by
      unfold nH
      cases c1:A3 2 n.kind
      · have c2 : A5 n.kind 3 9 = false := by simp [A3, A5, A6, B5] at c1 ⊢; omega
        refine⟨fun _=>?_,fun hb=>by rw[c2] at hb;simp[A7,A6] at hb⟩
        simp (maxSteps:=1000000) +contextual -dsimp [f279,eS,Ov,A1,hi,hc,hw,H9,c1,c2,List.set]
      · obtain ⟨⟨p1, p2⟩, p3⟩ := ho' c1
        obtain⟨l,hl⟩:=Int.eq_ofNat_of_zero_le p1
        have M7:l<acc.length:=by omega
        have e1:B4 acc (l:Int)=acc[l]:=by simp[B4,M7]
        rw[hl,e1]
        cases c2:A5 n.kind 3 9
        · refine ⟨fun hb => ?_, fun hb => ?_⟩
          all_goals
            simp only[rJ,yG,Ay] at hb
            simp (maxSteps:=1000000) +contextual -dsimp [f279,eS,Ov,A1,hi,hc,hw,H9,c1,c2,hl,M7,hb,List.set]
        · obtain ⟨p4, p5⟩ := p3 c2
          obtain⟨r,hr'⟩:=Int.eq_ofNat_of_zero_le p4
          have S0:r<acc.length:=by omega
          have e2:B4 acc (r:Int)=acc[r]:=by simp[B4,S0]
          rw[hr',e2]
          refine⟨fun hb=>?_,fun hb=>?_⟩
          all_goals
            simp only[rJ] at hb
            simp (maxSteps:=1000000) +contextual -dsimp [f279,eS,Ov,A1,hi,hc,hw,H9,c1,c2,hl,M7,hr',S0,hb,List.set]
    cases cb:nH n acc
    · have hm : R1 (n :: rest) acc = R1 rest (acc ++ [(partB n.kind).2]) := by simp [R1, cb]
      rw[hm]
      exact D6 (step.1 cb) (by simpa only[List.length_cons] using ih)
    · have hm : R1 (n :: rest) acc = (false, acc) := by simp [R1, cb]
      rw[hm,if_neg (by simp)]
      exact G3 (step.2 cb) (by simp)
theorem a7x:∀ (l:List Node) (acc:List Int),(R1 l acc).1=true→(R1 l acc).2.length=acc.length+l.length
 | [],acc,_=>by simp[R1]
 | n::l,acc,h=>by
  unfold R1 at h ⊢
  split at h
  ·simp at h
  ·rename_i hc
   rw[if_neg hc]
   rw[a7x l _ h];simp;omega
abbrev RI (c v:Int):Res:=⟨.agg [vI c,vI v],[],true⟩
def eH (l:List Node):Int×Int:=
 if A2 (A0 (bI l) 0)=true then (bI l,0)
 else if (R1 l []).1=true then (0,B4 (R1 l []).2 (l.length - 1)) else (7,0)
theorem d2u {n:Node} {i:Nat} (h:Hb n i) (hk:nodeFaultM n i=0) (h2:A3 2 n.kind=true):(0≤n.left∧n.left<(i:Nat))∧(A5 n.kind 3 9=true→0≤n.right∧n.right<(i:Nat)):=by
 obtain⟨cB,vY⟩:=h
 have g2:2<n.kind:=by simpa[A3] using h2
 by_cases e10:n.kind=10
 ·have a:=cB (by simp[A0,e10])
  exact⟨a,fun hc=>by simp[A5,A6,B5] at hc;omega⟩
 ·have f10:A0 n.kind 10=false:=by simp[A0,e10]
  by_cases tI:A5 n.kind 3 9=true
  ·obtain⟨a,b,c,d⟩:=vY f10 tI
   exact⟨⟨a,b⟩,fun _=>⟨c,d⟩⟩
  ·exfalso
   unfold nodeFaultM at hk
   rw[if_neg (by simp[A7,A0];omega),if_neg (by rw[f10];simp),if_neg tI] at hk
   simp at hk
theorem Nl:∀ {l:List Node} {i:Nat},T0 i l=0→∀ (k:Nat) (n:Node),l[k]?=some n→nodeFaultM n (i+k:Nat)=0
 | [],i,_,k,n,h=>by simp at h
 | x::l,i,hz,k,n,h=>by
  unfold T0 at hz
  split at hz
  ·rename_i hc
   rw[hz] at hc;simp[A2,A0] at hc
  ·rename_i hc
   have h0:nodeFaultM x i=0:=by simpa[A2,A0] using hc
   cases k with
   | zero=>simp at h;subst h;exact h0
   | succ k=>
    have:=Nl hz k n (by simpa using h)
    have e:i+1+k=i+(k+1):=by omega
    rw[←e];exact this
theorem c9c {l:List Node} (h:bI l=0):1≤l.length∧l.length≤16∧T0 0 l=0:=by
 unfold bI at h
 split at h
 ·simp at h
 ·rename_i c1
  split at h
  ·rename_i c2;rw[h] at c2;simp[A2,A0] at c2
  ·rename_i c2
   simp[A2,A5,A6,B5] at c1
   simp[A2,A0] at c2
   omega
theorem e5v (l:List Node) (hl:l.length<2 ^ 62):fo 279 [A (nS 219 l)]=some (RI (eH l).1 (eH l).2):=by
 have g:=My l hl
 cases c1:A0 (bI l) 0
 ·refine c0t 1 ?_
  simp (maxSteps:=1000000) +contextual -dsimp [f279,g,c1,eH,List.set]
 ·obtain⟨h1,h2,h3⟩:=c9c (by simpa[A0] using c1)
  have e0:bI l=0:=by simpa[A0] using c1
  have A4:=c0i l h2 l 0 [] rfl rfl (fun k n hk h2=>by
   simpa using d2u (Ir h3 k n hk) (Nl h3 k n hk) h2)
  refine c0t (l.length+1) ?_
  simp -dsimp [f279] at A4
  cases c2:(R1 l []).1
  ·rw[c2] at A4
   simp (maxSteps:=1000000) +contextual -dsimp [f279,g,e0,c2,A4,eH,D2,List.set]
  ·rw[c2] at A4
   have D7:=a7x l [] c2
   simp at D7
   have A1:l.length - 1<(R1 l []).2.length:=by omega
   have Ln:l.length - 1<l.length:=by omega
   have hw:IntKind.i64.wrap ((l.length:Int) - 1)=((l.length - 1:Nat):Int):=by rw[B6]<;>omega
   have e1:B4 (R1 l []).2 ((l.length:Int) - 1)=(R1 l []).2[l.length - 1]:=by
    have:((l.length:Int) - 1).toNat=l.length - 1:=by omega
    simp[B4,this,A1]
   simp (maxSteps:=1000000) +contextual -dsimp [f279,g,e0,c2,A4,D7,hw,Ln,e1,eH,D2,List.set]
end Go.TM.Ft
