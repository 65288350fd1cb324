/- The tables that the machine is told. -/
import Derived.Test.YtlmiemdojgahaaaGreatME0
set_option linter.unusedSimpArgs false
set_option linter.unusedVariables false
namespace Go.TM.Ft
open Go Go.TM Go.Proofs Go.Proofs.Tryz
set_option maxRecDepth 100000
attribute [local congr] O3
attribute [local simp] Zw b0f a9o a9p c4v Wl a4b c5d a6w a3y c2o a3q Wp a8m c2c c7r b0j c4q b3g Zj a3h a4g Zv b7x b0t a3n a1i Ys a8a b5a Wv gC gH dI gR bA K7 C4 Rd.of Rd.bind Rd.run Rd.touched St.val lk up lF cK St.apply setsOk setsApart eP newOk setCells G6 strike nJ It only hZ S7 wU qR hG fZ uO finish rV qY Bn qG rP oE iC uN clean U9 K1 kZ mT lends iU nM Dk yT gT nxt xR xV vA aF iO oX vT sZ Kq kN far Gu mC kJ sN tZ vK dY qM lI jD iR eY pO oF cH R4 V2 Q9 Eff.with b9x b5h Zt b2j Ay b5e a6p b0u c4p rJ yG Ca Dv c1h c8x c4a b5m a2j b8r c5i b4h b5f a7m b0p a8c a0w c1e b8z a0k a6r a9a c8k c6y a1x a9b a2f b6j a1e a3i content mJ lQ pJ kY pA Hs bG bJ lP oC pU sX nA aJ descend N3 Y6 viewFrom Hc sC jQ dL bare H4 kS zP dJ uR wJ stamp sQ uC dQ vP fC rW tE Root.at_ newOk C1 oB eK nP pE uM without args zS aZ oneVal rR wF vL G9 D9 T.cells
attribute [local simp] L9 M4 K0 L6 J6 L4 J8 J1 K5 I6
def kM (e:TypeId) (args:List Arg):Option Res:=
 match args with
 | [⟨.sl e' es,none⟩]=>if e'=e∧es.all (·.all dJ)=true∧es.length≤D0 then some ⟨.own e es,[],K1 es⟩ else none
 | _=>none
theorem nX:E0.P=Tryz.prog:=rfl
theorem e9u (a:Option Addr) (c:Nat) (x y:Operand):H7 Tryz.prog (do eqGuard .eql 60 x y (.slice a 0 c) (.slice none 0 0);binOp .eql 60 (.slice a 0 c) (.slice none 0 0))=some (.bool a.isNone):=by
 cases a<;>kernel_rfl
theorem f2i (x:List T) (r:List (List T)) (h1:(x::r).all (·.all dJ)=true) (h2:(x::r).length≤D0):
  orc E0 (149:Nat) [⟨.sl 150 (x::r),none⟩]=some ⟨.own 150 (x::r),[],K1 (x::r)⟩:=by
 have h3:r.length+1≤D0:=by simpa using h2
 refine Xx 1 ?_
 simp only[List.all_cons,Bool.and_eq_true] at h1
 simp (maxSteps:=1000000) +contextual -dsimp [f149,h1.1,h1.2,h3,List.set,nX]
theorem f2b (a:Option Addr) (c:Nat):orc E0 (149:Nat) [⟨.v (.slice a 0 c),none⟩]=some ⟨.own 150 [],[],true⟩:=by
 have g:=e9u a c
 refine Xx 1 ?_
 cases a
 ·simp (maxSteps:=1000000) +contextual -dsimp [f149,g,List.set,nX]
 ·simp (maxSteps:=1000000) +contextual -dsimp [f149,g,List.set,nX]
theorem d0k (a:Option Addr) (c:Nat) (x y:Operand):H7 Tryz.prog (do eqGuard .eql 23 x y (.slice a 0 c) (.slice none 0 0);binOp .eql 23 (.slice a 0 c) (.slice none 0 0))=some (.bool a.isNone):=by
 cases a<;>kernel_rfl
theorem d1b (x:List T) (r:List (List T)) (h1:(x::r).all (·.all dJ)=true) (h2:(x::r).length≤D0):
  orc E0 (170:Nat) [⟨.sl 2 (x::r),none⟩]=some ⟨.own 2 (x::r),[],K1 (x::r)⟩:=by
 have h3:r.length+1≤D0:=by simpa using h2
 refine a7r 1 ?_
 simp only[List.all_cons,Bool.and_eq_true] at h1
 simp (maxSteps:=1000000) +contextual -dsimp [f170,h1.1,h1.2,h3,List.set,nX]
theorem e2q (a:Option Addr) (c:Nat):orc E0 (170:Nat) [⟨.v (.slice a 0 c),none⟩]=some ⟨.own 2 [],[],true⟩:=by
 have g:=d0k a c
 refine a7r 1 ?_
 cases a
 ·simp (maxSteps:=1000000) +contextual -dsimp [f170,g,List.set,nX]
 ·simp (maxSteps:=1000000) +contextual -dsimp [f170,g,List.set,nX]
theorem d3h (a:Option Addr) (c:Nat) (x y:Operand):H7 Tryz.prog (do eqGuard .eql 122 x y (.slice a 0 c) (.slice none 0 0);binOp .eql 122 (.slice a 0 c) (.slice none 0 0))=some (.bool a.isNone):=by
 cases a<;>kernel_rfl
theorem e0h (x:List T) (r:List (List T)) (h1:(x::r).all (·.all dJ)=true) (h2:(x::r).length≤D0):
  orc E0 (285:Nat) [⟨.sl 219 (x::r),none⟩]=some ⟨.own 219 (x::r),[],K1 (x::r)⟩:=by
 have h3:r.length+1≤D0:=by simpa using h2
 refine b7z 1 ?_
 simp only[List.all_cons,Bool.and_eq_true] at h1
 simp (maxSteps:=1000000) +contextual -dsimp [f285,h1.1,h1.2,h3,List.set,nX]
theorem e3r (a:Option Addr) (c:Nat):orc E0 (285:Nat) [⟨.v (.slice a 0 c),none⟩]=some ⟨.own 219 [],[],true⟩:=by
 have g:=d3h a c
 refine b7z 1 ?_
 cases a
 ·simp (maxSteps:=1000000) +contextual -dsimp [f285,g,List.set,nX]
 ·simp (maxSteps:=1000000) +contextual -dsimp [f285,g,List.set,nX]
theorem e8w {sz:TypeId→Nat} {z:Zn} {args args':List Arg} {us:List Value} {r:Res} {u:Value} {w':World} (hr:r.outs=[]) (hb:Back sz z args us r u w'):Back sz z args' us r u w':=by
 obtain⟨h1,⟨f,fo,b1,b2,b3,b4⟩,h3⟩:=hb
 rw[hr] at b2
 exact⟨h1,⟨f,fo,b1,by rw[hr];exact b2,b3,b4⟩,h3⟩
theorem Vl {k:Nat} {e:TypeId} (hm:lends (E0.mode k)=false) (h1:∀ x r,(x::r).all (·.all dJ)=true→(x::r).length≤D0→orc E0 k [⟨.sl e (x::r),none⟩]=some ⟨.own e (x::r),[],K1 (x::r)⟩)
  (h2:∀ a c,orc E0 k [⟨.v (.slice a 0 c),none⟩]=some ⟨.own e [],[],true⟩):∀ args r,kM e args=some r→Sound E0 k args r∧Enters E0 k:=by
 intro args r h
 unfold kM at h
 split at h
 ·rename_i e' es
  split at h
  ·rename_i hc
   obtain⟨rfl,K3,P5⟩:=hc
   simp only[Option.some.injEq] at h
   subst h
   cases es with
   | cons x r=>exact Gn oZ (h1 x r K3 P5)
   | nil=>
    refine⟨⟨fun hl=>by rw[hm] at hl;simp at hl,fun _ z us hu hb P7=>?_,fun hl=>by rw[hm] at hl;simp at hl,oZ.view _⟩,(Gn oZ (h2 none 0)).2⟩
    simp only[okArgs,gB] at P7
    obtain⟨u,us',f1,f2,rfl,hF,⟨hv,rfl⟩,rfl,rfl⟩:=P7
    simp only[okV] at hv
    obtain⟨_,a,cap,rfl,_⟩:=hv
    have key:=(Gn oZ (h2 a cap)).1.old hm z [.slice a 0 cap] hu hb (by
     simp only[okArgs,gB]
     exact⟨_,[],[],[],rfl,hF,⟨by simp[okV],rfl⟩,rfl,rfl⟩)
    exact Calls.mono' key fun u w' hb=>e8w rfl hb
  ·simp at h
 ·simp at h
noncomputable def Ph:List (Nat×(List Arg→Option Res)):=[(149,kM 150),(170,kM 2),(220,Dg 2),(285,kM 219)]
theorem d2t:∀ f g,lk Ph f=some g→∀ args r,g args=some r→Sound E0 f args r∧Enters E0 f:=by
 intro f g h
 unfold Ph at h
 simp only[lk] at h
 repeat' split at h
 ·rename_i hf;subst hf;simp only[Option.some.injEq] at h;subst h;exact Vl rfl f2i f2b
 ·rename_i hf;subst hf;simp only[Option.some.injEq] at h;subst h;exact Vl rfl d1b e2q
 ·rename_i hf;subst hf;simp only[Option.some.injEq] at h;subst h;exact d5k
 ·rename_i hf;subst hf;simp only[Option.some.injEq] at h;subst h;exact Vl rfl e0h e3r
 ·simp at h
end Go.TM.Ft
namespace Go.TM.Ft
open Go Go.TM Go.Proofs Go.Proofs.Tryz
set_option maxRecDepth 100000
noncomputable def E:Env:={ E0 with ext:=fun f=>lk Ph f }
noncomputable abbrev fo (f:Nat) (args:List Arg):Option Res:=orc E f args
@[simp] theorem f9t (f:Nat):E.view f=sZ f:=rfl
@[simp] theorem f5u (f r:Nat):E.clr f r=xR f r:=rfl
theorem E_P:E.P=Tryz.prog:=rfl
theorem d2w:Able E:=⟨fun t i h=>by
 obtain⟨h1,h2,h3,h4,h5,h6,h7,h8⟩:=oZ.ti t i h
 exact⟨h1,h2,h3,h4,h5,h6,h7,h8⟩,oZ.mix,oZ.good,fun f g hg args r hr=>by
 obtain⟨⟨h1,h2,h3,h5⟩,h4⟩:=d2t f g hg args r hr
 exact⟨⟨h1,h2,h3,h5⟩,h4⟩,oZ.view⟩
@[simp] theorem tiA:E.ti 2=some Wd∧E.ti 3=some Og∧E.ti 4=some Kv∧E.ti 5=some Qu∧E.ti 9=some Of∧E.ti 22=some Tn∧E.ti 23=some Po∧E.ti 30=some Nj∧E.ti 34=some Oh∧E.ti 48=some Nu∧E.ti 49=some Kd∧E.ti 51=some Mc∧E.ti 52=some Ku∧E.ti 54=some Mi∧E.ti 56=some Kp∧E.ti 57=some Nd∧E.ti 59=some Jo∧E.ti 60=some Vg∧E.ti 62=some Uf∧E.ti 64=some Sd∧E.ti 74=some Pb∧E.ti 88=some Kj∧E.ti 109=some Sb∧E.ti 111=some Iq∧E.ti 116=some Na∧E.ti 122=some Om∧E.ti 124=some Lo∧E.ti 139=some Lh∧E.ti 150=some Vc∧E.ti 156=some Kg∧E.ti 160=some Qs∧E.ti 163=some Pm∧E.ti 179=some Nt∧E.ti 180=some Rx∧E.ti 213=some Ro∧E.ti 215=some Iy∧E.ti 219=some Iu∧E.ti 222=some Sn∧E.ti 225=some Vw∧E.ti 227=some Ra∧E.ti 229=some Nk∧E.ti 231=some Uk∧E.ti 256=some Tx∧E.ti 267=some Tk∧E.ti 268=some Sf∧E.ti 270=some Qn∧E.ti 294=some Qv∧E.ti 307=some Nq∧E.ti 312=some Tl∧E.ti 325=some Kl∧E.ti 331=some Ug:=⟨rfl,rfl,rfl,rfl,rfl,rfl,rfl,rfl,rfl,rfl,rfl,rfl,rfl,rfl,rfl,rfl,rfl,rfl,rfl,rfl,rfl,rfl,rfl,rfl,rfl,rfl,rfl,rfl,rfl,rfl,rfl,rfl,rfl,rfl,rfl,rfl,rfl,rfl,rfl,rfl,rfl,rfl,rfl,rfl,rfl,rfl,rfl,rfl,rfl,rfl,rfl⟩
abbrev EQ (k:Nat) (m:List Mode) (l:B2) (q:B3) (p:J3) (a b:List Nat):Prop:=E.mode k=m∧∀ r:Nat,E.kill k r=(lk q r).getD []∧E.live k r=lk l r∧E.pairs k r=(lk p r).getD []∧E.keep k r=a.contains r∧E.take k r=b.contains r
@[simp] theorem e12:EQ 12 [] b5q c1i c0g [19,27,29,34,37,41,42,46,52,57,60,67,71,74,78] [4,10,11,12,16]:=⟨rfl,fun _=>⟨rfl,rfl,rfl,rfl,rfl⟩⟩
abbrev OB (k:Nat) (f:Func):Prop:=∀ {args:List Arg} {r:Res} (n:Nat),gZ E (orc E) n k f args=some r→fo k args=some r
theorem Oy:OB 12 f12:=fun n h=>A9 n rfl rfl rfl func12 h
@[simp] theorem e13:EQ 13 [] a2l c5w [] [] []:=⟨rfl,fun _=>⟨rfl,rfl,rfl,rfl,rfl⟩⟩
theorem d1y:OB 13 f13:=fun n h=>A9 n rfl rfl rfl func13 h
@[simp] theorem e16:EQ 16 [] a6c a1k [] [6,10,20] []:=⟨rfl,fun _=>⟨rfl,rfl,rfl,rfl,rfl⟩⟩
theorem f0e:OB 16 f16:=fun n h=>A9 n rfl rfl rfl func16 h
@[simp] theorem e17:EQ 17 [] c4w b8w [] [6,10] []:=⟨rfl,fun _=>⟨rfl,rfl,rfl,rfl,rfl⟩⟩
theorem e6y:OB 17 f17:=fun n h=>A9 n rfl rfl rfl func17 h
@[simp] theorem e21:EQ 21 [] a6a c6q [] [] []:=⟨rfl,fun _=>⟨rfl,rfl,rfl,rfl,rfl⟩⟩
theorem d7n:OB 21 f21:=fun n h=>A9 n rfl rfl rfl func21 h
@[simp] theorem e22:EQ 22 [] a1n a5s [] [] []:=⟨rfl,fun _=>⟨rfl,rfl,rfl,rfl,rfl⟩⟩
theorem d7v:OB 22 f22:=fun n h=>A9 n rfl rfl rfl func22 h
@[simp] theorem e24:EQ 24 [.L,.P] b2k c1p [] [] []:=⟨rfl,fun _=>⟨rfl,rfl,rfl,rfl,rfl⟩⟩
theorem e9v:OB 24 f24:=fun n h=>A9 n rfl rfl rfl func24 h
@[simp] theorem e25:EQ 25 [.L,.P] a5u b3u [] [] []:=⟨rfl,fun _=>⟨rfl,rfl,rfl,rfl,rfl⟩⟩
theorem d6g:OB 25 f25:=fun n h=>A9 n rfl rfl rfl func25 h
@[simp] theorem e29:EQ 29 [] b9k b1f [] [] []:=⟨rfl,fun _=>⟨rfl,rfl,rfl,rfl,rfl⟩⟩
theorem d7s:OB 29 f29:=fun n h=>A9 n rfl rfl rfl func29 h
@[simp] theorem e31:EQ 31 [] c2f a4c [] [6,10] [1,2,3]:=⟨rfl,fun _=>⟨rfl,rfl,rfl,rfl,rfl⟩⟩
theorem e7o:OB 31 f31:=fun n h=>A9 n rfl rfl rfl func31 h
@[simp] theorem e33:EQ 33 [] a8g a8z [] [] []:=⟨rfl,fun _=>⟨rfl,rfl,rfl,rfl,rfl⟩⟩
theorem e2f:OB 33 f33:=fun n h=>A9 n rfl rfl rfl func33 h
@[simp] theorem e34:EQ 34 [] b9e b1h [] [] []:=⟨rfl,fun _=>⟨rfl,rfl,rfl,rfl,rfl⟩⟩
theorem d0d:OB 34 f34:=fun n h=>A9 n rfl rfl rfl func34 h
@[simp] theorem e35:EQ 35 [.L,.B] b0s b9o [] [] []:=⟨rfl,fun _=>⟨rfl,rfl,rfl,rfl,rfl⟩⟩
theorem d3u {args r} (n) (h:dK E (orc E) n (35:Nat) f35 args=some r):fo 35 args=some r:=Qx n rfl rfl rfl func35 h
@[simp] theorem e36:EQ 36 [.L,.B] a5b b4p [] [] []:=⟨rfl,fun _=>⟨rfl,rfl,rfl,rfl,rfl⟩⟩
theorem d8p {args r} (n) (h:dK E (orc E) n (36:Nat) f36 args=some r):fo 36 args=some r:=Qx n rfl rfl rfl func36 h
@[simp] theorem e37:EQ 37 [] c5p c4n [] [] []:=⟨rfl,fun _=>⟨rfl,rfl,rfl,rfl,rfl⟩⟩
theorem d4y:OB 37 f37:=fun n h=>A9 n rfl rfl rfl func37 h
@[simp] theorem e38:EQ 38 [] c8w Wn [] [] []:=⟨rfl,fun _=>⟨rfl,rfl,rfl,rfl,rfl⟩⟩
theorem f1x:OB 38 f38:=fun n h=>A9 n rfl rfl rfl func38 h
@[simp] theorem tI:EQ 39 [] b4l a9s a7h [10,14,18,20,22,25,27,37,43,45,53,57] [3,6,8,9]:=⟨rfl,fun _=>⟨rfl,rfl,rfl,rfl,rfl⟩⟩
theorem zB:OB 39 f39:=fun n h=>A9 n rfl rfl rfl func39 h
@[simp] theorem e40:EQ 40 [] a7d c2b [] [6,10] [1,2,3]:=⟨rfl,fun _=>⟨rfl,rfl,rfl,rfl,rfl⟩⟩
theorem d2v:OB 40 f40:=fun n h=>A9 n rfl rfl rfl func40 h
@[simp] theorem e41:EQ 41 [] c5q b9i a9z [11,15,16,18,21,23,25,39,47,55,59] [3,6,8,9]:=⟨rfl,fun _=>⟨rfl,rfl,rfl,rfl,rfl⟩⟩
theorem Kn:OB 41 f41:=fun n h=>A9 n rfl rfl rfl func41 h
@[simp] theorem e43:EQ 43 [] b9r c1r [] [] []:=⟨rfl,fun _=>⟨rfl,rfl,rfl,rfl,rfl⟩⟩
theorem e1j:OB 43 f43:=fun n h=>A9 n rfl rfl rfl func43 h
@[simp] theorem e44:EQ 44 [.L,.B] c0w a3v [] [] []:=⟨rfl,fun _=>⟨rfl,rfl,rfl,rfl,rfl⟩⟩
theorem e8k {args r} (n) (h:dK E (orc E) n (44:Nat) f44 args=some r):fo 44 args=some r:=Qx n rfl rfl rfl func44 h
@[simp] theorem e47:EQ 47 [] b6y a2t [] [10,14,31,32] [3,6,8]:=⟨rfl,fun _=>⟨rfl,rfl,rfl,rfl,rfl⟩⟩
theorem a3w:OB 47 f47:=fun n h=>A9 n rfl rfl rfl func47 h
@[simp] theorem e48:EQ 48 [] a3s c9j a4o [11,25,29,30] [3,6,8]:=⟨rfl,fun _=>⟨rfl,rfl,rfl,rfl,rfl⟩⟩
theorem Xu:OB 48 f48:=fun n h=>A9 n rfl rfl rfl func48 h
@[simp] theorem e51:EQ 51 [] c1w b9s [] [9,13,15,22,25,27,38,64] [2,4,6]:=⟨rfl,fun _=>⟨rfl,rfl,rfl,rfl,rfl⟩⟩
theorem Pc:OB 51 f51:=fun n h=>A9 n rfl rfl rfl func51 h
@[simp] theorem e52:EQ 52 [] a0b a2u Wy [12,14,23,25,31,39,47,52,65] [2,4,6,9,10]:=⟨rfl,fun _=>⟨rfl,rfl,rfl,rfl,rfl⟩⟩
theorem c6d:OB 52 f52:=fun n h=>A9 n rfl rfl rfl func52 h
@[simp] theorem e66:EQ 66 [] b0q a8u b9q [14,21] [4,8]:=⟨rfl,fun _=>⟨rfl,rfl,rfl,rfl,rfl⟩⟩
theorem Lz:OB 66 f66:=fun n h=>A9 n rfl rfl rfl func66 h
@[simp] theorem e67:EQ 67 [] b7q a7p a9j [11,23,24] [4,8]:=⟨rfl,fun _=>⟨rfl,rfl,rfl,rfl,rfl⟩⟩
theorem a2y:OB 67 f67:=fun n h=>A9 n rfl rfl rfl func67 h
@[simp] theorem e68:EQ 68 [] a0m b7n [] [] []:=⟨rfl,fun _=>⟨rfl,rfl,rfl,rfl,rfl⟩⟩
theorem e5d:OB 68 f68:=fun n h=>A9 n rfl rfl rfl func68 h
@[simp] theorem e70:EQ 70 [] Yr b4z c2g [11,15,17,21,23,25,28,30,33,37] [6,9]:=⟨rfl,fun _=>⟨rfl,rfl,rfl,rfl,rfl⟩⟩
theorem Db:OB 70 f70:=fun n h=>A9 n rfl rfl rfl func70 h
@[simp] theorem e73:EQ 73 [] Yv b2v [] [11,15,17,19,22,50,53,56] [4,6,9]:=⟨rfl,fun _=>⟨rfl,rfl,rfl,rfl,rfl⟩⟩
theorem He:OB 73 f73:=fun n h=>A9 n rfl rfl rfl func73 h
@[simp] theorem e75:EQ 75 [] a8s a3c [] [18,22] [1,2,3]:=⟨rfl,fun _=>⟨rfl,rfl,rfl,rfl,rfl⟩⟩
theorem d4u:OB 75 f75:=fun n h=>A9 n rfl rfl rfl func75 h
@[simp] theorem e77:EQ 77 [] a2b a8q a4t [10,12,14,16,18,26,28,31,37] [6,35]:=⟨rfl,fun _=>⟨rfl,rfl,rfl,rfl,rfl⟩⟩
theorem Xd:OB 77 f77:=fun n h=>A9 n rfl rfl rfl func77 h
@[simp] theorem e78:EQ 78 [] c4b b7f [] [] []:=⟨rfl,fun _=>⟨rfl,rfl,rfl,rfl,rfl⟩⟩
theorem Nz:OB 78 f78:=fun n h=>A9 n rfl rfl rfl func78 h
@[simp] theorem e82:EQ 82 [] a6n a9w [] [] []:=⟨rfl,fun _=>⟨rfl,rfl,rfl,rfl,rfl⟩⟩
theorem d2f:OB 82 f82:=fun n h=>A9 n rfl rfl rfl func82 h
@[simp] theorem e83:EQ 83 [] Yd Yb [] [] []:=⟨rfl,fun _=>⟨rfl,rfl,rfl,rfl,rfl⟩⟩
theorem d2m:OB 83 f83:=fun n h=>A9 n rfl rfl rfl func83 h
@[simp] theorem e85:EQ 85 [] b7a c9l [] [] []:=⟨rfl,fun _=>⟨rfl,rfl,rfl,rfl,rfl⟩⟩
theorem b5p:OB 85 f85:=fun n h=>A9 n rfl rfl rfl func85 h
@[simp] theorem e86:EQ 86 [.L,.P] b4m b8i [] [] []:=⟨rfl,fun _=>⟨rfl,rfl,rfl,rfl,rfl⟩⟩
theorem d6u:OB 86 f86:=fun n h=>A9 n rfl rfl rfl func86 h
@[simp] theorem e89:EQ 89 [] b6t c6v [] [] []:=⟨rfl,fun _=>⟨rfl,rfl,rfl,rfl,rfl⟩⟩
theorem d2k:OB 89 f89:=fun n h=>A9 n rfl rfl rfl func89 h
@[simp] theorem e92:EQ 92 [] b3r b1q [] [] []:=⟨rfl,fun _=>⟨rfl,rfl,rfl,rfl,rfl⟩⟩
theorem d7k:OB 92 f92:=fun n h=>A9 n rfl rfl rfl func92 h
@[simp] theorem e94:EQ 94 [] c3h c9x [] [] [2]:=⟨rfl,fun _=>⟨rfl,rfl,rfl,rfl,rfl⟩⟩
theorem d9z:OB 94 f94:=fun n h=>A9 n rfl rfl rfl func94 h
@[simp] theorem e98:EQ 98 [] b8h c4m [] [6,10,20] []:=⟨rfl,fun _=>⟨rfl,rfl,rfl,rfl,rfl⟩⟩
theorem d0n:OB 98 f98:=fun n h=>A9 n rfl rfl rfl func98 h
@[simp] theorem f3o:EQ 102 [] a2q a4a [] [] []:=⟨rfl,fun _=>⟨rfl,rfl,rfl,rfl,rfl⟩⟩
theorem e4t:OB 102 f102:=fun n h=>A9 n rfl rfl rfl func102 h
@[simp] theorem f8w:EQ 103 [.L,.P] c9v c4x [] [] []:=⟨rfl,fun _=>⟨rfl,rfl,rfl,rfl,rfl⟩⟩
theorem d5q:OB 103 f103:=fun n h=>A9 n rfl rfl rfl func103 h
@[simp] theorem f8m:EQ 104 [] c9z a4z [] [] []:=⟨rfl,fun _=>⟨rfl,rfl,rfl,rfl,rfl⟩⟩
theorem d4o:OB 104 f104:=fun n h=>A9 n rfl rfl rfl func104 h
@[simp] theorem f5o:EQ 105 [] Zp a7i [] [] []:=⟨rfl,fun _=>⟨rfl,rfl,rfl,rfl,rfl⟩⟩
theorem e7z:OB 105 f105:=fun n h=>A9 n rfl rfl rfl func105 h
@[simp] theorem f8q:EQ 106 [] a5j b7y [] [] []:=⟨rfl,fun _=>⟨rfl,rfl,rfl,rfl,rfl⟩⟩
theorem d7x:OB 106 f106:=fun n h=>A9 n rfl rfl rfl func106 h
@[simp] theorem f6n:EQ 107 [] a9n c8j [] [] []:=⟨rfl,fun _=>⟨rfl,rfl,rfl,rfl,rfl⟩⟩
theorem e3b:OB 107 f107:=fun n h=>A9 n rfl rfl rfl func107 h
@[simp] theorem f4t:EQ 108 [] c2s b9y [] [] [2]:=⟨rfl,fun _=>⟨rfl,rfl,rfl,rfl,rfl⟩⟩
theorem d1t:OB 108 f108:=fun n h=>A9 n rfl rfl rfl func108 h
@[simp] theorem f7c:EQ 109 [] b9p d0a [] [] []:=⟨rfl,fun _=>⟨rfl,rfl,rfl,rfl,rfl⟩⟩
theorem d3i:OB 109 f109:=fun n h=>A9 n rfl rfl rfl func109 h
@[simp] theorem f3n:EQ 110 [] c5b b6n a2s [7,14,32,35] [1,2,3]:=⟨rfl,fun _=>⟨rfl,rfl,rfl,rfl,rfl⟩⟩
theorem e9b:OB 110 f110:=fun n h=>A9 n rfl rfl rfl func110 h
@[simp] theorem f6j:EQ 111 [] b8g c6s [] [6,10,20] []:=⟨rfl,fun _=>⟨rfl,rfl,rfl,rfl,rfl⟩⟩
theorem f0g:OB 111 f111:=fun n h=>A9 n rfl rfl rfl func111 h
@[simp] theorem f4p:EQ 112 [] a2p a8w [] [6,10,20] []:=⟨rfl,fun _=>⟨rfl,rfl,rfl,rfl,rfl⟩⟩
theorem e0z:OB 112 f112:=fun n h=>A9 n rfl rfl rfl func112 h
@[simp] theorem f6q:EQ 113 [] Xo b5i a4y [] []:=⟨rfl,fun _=>⟨rfl,rfl,rfl,rfl,rfl⟩⟩
theorem e9s:OB 113 f113:=fun n h=>A9 n rfl rfl rfl func113 h
@[simp] theorem f5c:EQ 114 [] a5v Yj [] [] []:=⟨rfl,fun _=>⟨rfl,rfl,rfl,rfl,rfl⟩⟩
theorem e2k:OB 114 f114:=fun n h=>A9 n rfl rfl rfl func114 h
@[simp] theorem f6a:EQ 115 [] Us Px Ma [] []:=⟨rfl,fun _=>⟨rfl,rfl,rfl,rfl,rfl⟩⟩
theorem e5a:OB 115 f115:=fun n h=>A9 n rfl rfl rfl func115 h
@[simp] theorem f7r:EQ 116 [] b6u c3o b1x [8,14,25,28] [1,2,3,5]:=⟨rfl,fun _=>⟨rfl,rfl,rfl,rfl,rfl⟩⟩
theorem e1e:OB 116 f116:=fun n h=>A9 n rfl rfl rfl func116 h
@[simp] theorem f7h:EQ 117 [] b0w c3p [] [] []:=⟨rfl,fun _=>⟨rfl,rfl,rfl,rfl,rfl⟩⟩
theorem d8l:OB 117 f117:=fun n h=>A9 n rfl rfl rfl func117 h
@[simp] theorem f6e:EQ 118 [] b4f c2q [] [] []:=⟨rfl,fun _=>⟨rfl,rfl,rfl,rfl,rfl⟩⟩
theorem e9r:OB 118 f118:=fun n h=>A9 n rfl rfl rfl func118 h
@[simp] theorem g0c:EQ 119 [.L,.P] a5w a1f [] [] []:=⟨rfl,fun _=>⟨rfl,rfl,rfl,rfl,rfl⟩⟩
theorem e2v:OB 119 f119:=fun n h=>A9 n rfl rfl rfl func119 h
@[simp] theorem f7m:EQ 120 [.L,.P] c1n c8b [] [] []:=⟨rfl,fun _=>⟨rfl,rfl,rfl,rfl,rfl⟩⟩
theorem e6c:OB 120 f120:=fun n h=>A9 n rfl rfl rfl func120 h
@[simp] theorem g0g:EQ 121 [] b9g c0x [] [] []:=⟨rfl,fun _=>⟨rfl,rfl,rfl,rfl,rfl⟩⟩
theorem d4r:OB 121 f121:=fun n h=>A9 n rfl rfl rfl func121 h
@[simp] theorem f7p:EQ 122 [] a4i a7v [] [] []:=⟨rfl,fun _=>⟨rfl,rfl,rfl,rfl,rfl⟩⟩
theorem Tp:OB 122 f122:=fun n h=>A9 n rfl rfl rfl func122 h
@[simp] theorem f7w:EQ 123 [.R,.R,.V] b3o Yg [] [13,17] [5,6,7]:=⟨rfl,fun _=>⟨rfl,rfl,rfl,rfl,rfl⟩⟩
theorem c5s:OB 123 f123:=fun n h=>A9 n rfl rfl rfl func123 h
@[simp] theorem f9o:EQ 124 [] Xz Zo c5y [] []:=⟨rfl,fun _=>⟨rfl,rfl,rfl,rfl,rfl⟩⟩
theorem d0c:OB 124 f124:=fun n h=>A9 n rfl rfl rfl func124 h
@[simp] theorem f8x:EQ 125 [.R,.R,.V] c4g a0x [] [15] [3,5,6,7]:=⟨rfl,fun _=>⟨rfl,rfl,rfl,rfl,rfl⟩⟩
theorem c0z:OB 125 f125:=fun n h=>A9 n rfl rfl rfl func125 h
@[simp] theorem f8i:EQ 126 [] b0o Zh [] [13,15,17,19,25,50,55] [4,6,9,52]:=⟨rfl,fun _=>⟨rfl,rfl,rfl,rfl,rfl⟩⟩
theorem Nb:OB 126 f126:=fun n h=>A9 n rfl rfl rfl func126 h
@[simp] theorem f3t:EQ 127 [] Ob Un Kz [] []:=⟨rfl,fun _=>⟨rfl,rfl,rfl,rfl,rfl⟩⟩
theorem d3k:OB 127 f127:=fun n h=>A9 n rfl rfl rfl func127 h
@[simp] theorem f4q:EQ 129 [] b6m c1l [] [] []:=⟨rfl,fun _=>⟨rfl,rfl,rfl,rfl,rfl⟩⟩
theorem e5g:OB 129 f129:=fun n h=>A9 n rfl rfl rfl func129 h
@[simp] theorem f3y:EQ 130 [.R,.N,.R] a3m c2k [] [] []:=⟨rfl,fun _=>⟨rfl,rfl,rfl,rfl,rfl⟩⟩
theorem e8r:OB 130 f130:=fun n h=>A9 n rfl rfl rfl func130 h
@[simp] theorem f7j:EQ 131 [] Uy Iw Mb [] []:=⟨rfl,fun _=>⟨rfl,rfl,rfl,rfl,rfl⟩⟩
theorem e8a:OB 131 f131:=fun n h=>A9 n rfl rfl rfl func131 h
@[simp] theorem f5h:EQ 132 [] c4r c7c Yh [28] [4,6,30]:=⟨rfl,fun _=>⟨rfl,rfl,rfl,rfl,rfl⟩⟩
theorem b0h:OB 132 f132:=fun n h=>A9 n rfl rfl rfl func132 h
@[simp] theorem f7l:EQ 133 [] Ye c1d [] [] []:=⟨rfl,fun _=>⟨rfl,rfl,rfl,rfl,rfl⟩⟩
theorem e0p:OB 133 f133:=fun n h=>A9 n rfl rfl rfl func133 h
@[simp] theorem f6p:EQ 148 [.R,.R] c2u c2p b3i [12,21,36,45] [3,4,5]:=⟨rfl,fun _=>⟨rfl,rfl,rfl,rfl,rfl⟩⟩
theorem c0l:OB 148 f148:=fun n h=>A9 n rfl rfl rfl func148 h
@[simp] theorem f9v:EQ 149 [] Ml Ux Ja [] []:=⟨rfl,fun _=>⟨rfl,rfl,rfl,rfl,rfl⟩⟩
@[simp] theorem f7k:EQ 150 [.R,.V] b6o b5w [] [13,15] [3,4]:=⟨rfl,fun _=>⟨rfl,rfl,rfl,rfl,rfl⟩⟩
theorem c2l:OB 150 f150:=fun n h=>A9 n rfl rfl rfl func150 h
@[simp] theorem f3x:EQ 151 [] b7i c2n [] [] []:=⟨rfl,fun _=>⟨rfl,rfl,rfl,rfl,rfl⟩⟩
theorem e5x:OB 151 f151:=fun n h=>A9 n rfl rfl rfl func151 h
@[simp] theorem f9k:EQ 152 [] b1d c2t [] [22,31,41,51,52] [8]:=⟨rfl,fun _=>⟨rfl,rfl,rfl,rfl,rfl⟩⟩
theorem tA:OB 152 f152:=fun n h=>A9 n rfl rfl rfl func152 h
@[simp] theorem f7s:EQ 153 [] b1u c2a a9h [] []:=⟨rfl,fun _=>⟨rfl,rfl,rfl,rfl,rfl⟩⟩
theorem d3e:OB 153 f153:=fun n h=>A9 n rfl rfl rfl func153 h
@[simp] theorem f9q:EQ 154 [] c6i a2a b0r [16,17,24,34,44] [4,8]:=⟨rfl,fun _=>⟨rfl,rfl,rfl,rfl,rfl⟩⟩
theorem yP:OB 154 f154:=fun n h=>A9 n rfl rfl rfl func154 h
@[simp] theorem f6t:EQ 155 [] b8j a6h [] [] []:=⟨rfl,fun _=>⟨rfl,rfl,rfl,rfl,rfl⟩⟩
theorem d4x:OB 155 f155:=fun n h=>A9 n rfl rfl rfl func155 h
@[simp] theorem f8z:EQ 156 [] b3q b7b [] [] []:=⟨rfl,fun _=>⟨rfl,rfl,rfl,rfl,rfl⟩⟩
theorem f0t:OB 156 f156:=fun n h=>A9 n rfl rfl rfl func156 h
@[simp] theorem f7d:EQ 157 [] c1z a0h [] [] []:=⟨rfl,fun _=>⟨rfl,rfl,rfl,rfl,rfl⟩⟩
theorem c0f:OB 157 f157:=fun n h=>A9 n rfl rfl rfl func157 h
@[simp] theorem f5n:EQ 158 [] b7r b8q [] [] [2]:=⟨rfl,fun _=>⟨rfl,rfl,rfl,rfl,rfl⟩⟩
theorem d4g:OB 158 f158:=fun n h=>A9 n rfl rfl rfl func158 h
@[simp] theorem g0b:EQ 159 [] c6c b4c [] [] []:=⟨rfl,fun _=>⟨rfl,rfl,rfl,rfl,rfl⟩⟩
theorem c0p:OB 159 f159:=fun n h=>A9 n rfl rfl rfl func159 h
@[simp] theorem f9f:EQ 160 [] b6c a6u [] [] []:=⟨rfl,fun _=>⟨rfl,rfl,rfl,rfl,rfl⟩⟩
theorem d6n:OB 160 f160:=fun n h=>A9 n rfl rfl rfl func160 h
@[simp] theorem f6v:EQ 161 [.R,.N,.R] c8u a3t [] [] []:=⟨rfl,fun _=>⟨rfl,rfl,rfl,rfl,rfl⟩⟩
theorem nF:OB 161 f161:=fun n h=>A9 n rfl rfl rfl func161 h
@[simp] theorem f3r:EQ 163 [] b2h c4f [] [] []:=⟨rfl,fun _=>⟨rfl,rfl,rfl,rfl,rfl⟩⟩
theorem d1q:OB 163 f163:=fun n h=>A9 n rfl rfl rfl func163 h
@[simp] theorem f8p:EQ 164 [] c0n c2d c5h [9,12,15] [1,2]:=⟨rfl,fun _=>⟨rfl,rfl,rfl,rfl,rfl⟩⟩
theorem e3u:OB 164 f164:=fun n h=>A9 n rfl rfl rfl func164 h
@[simp] theorem f5w:EQ 165 [.R,.N,.R] b3c c9r [] [] []:=⟨rfl,fun _=>⟨rfl,rfl,rfl,rfl,rfl⟩⟩
theorem vN:OB 165 f165:=fun n h=>A9 n rfl rfl rfl func165 h
@[simp] theorem f7f:EQ 166 [] a6f b2b [] [6,10,20] []:=⟨rfl,fun _=>⟨rfl,rfl,rfl,rfl,rfl⟩⟩
theorem e1y:OB 166 f166:=fun n h=>A9 n rfl rfl rfl func166 h
@[simp] theorem f8r:EQ 167 [] c7l c2w c6f [] []:=⟨rfl,fun _=>⟨rfl,rfl,rfl,rfl,rfl⟩⟩
theorem a7q:OB 167 f167:=fun n h=>A9 n rfl rfl rfl func167 h
@[simp] theorem f5m:EQ 168 [] a5x a7s [] [] []:=⟨rfl,fun _=>⟨rfl,rfl,rfl,rfl,rfl⟩⟩
theorem f0p:OB 168 f168:=fun n h=>A9 n rfl rfl rfl func168 h
@[simp] theorem f3m:EQ 169 [] a3k c8m [] [] []:=⟨rfl,fun _=>⟨rfl,rfl,rfl,rfl,rfl⟩⟩
theorem d2q:OB 169 f169:=fun n h=>A9 n rfl rfl rfl func169 h
@[simp] theorem f9z:EQ 170 [] Pi Vs Lk [] []:=⟨rfl,fun _=>⟨rfl,rfl,rfl,rfl,rfl⟩⟩
@[simp] theorem f7g:EQ 171 [.M,.R] a8l c7m a9u [] []:=⟨rfl,fun _=>⟨rfl,rfl,rfl,rfl,rfl⟩⟩
theorem oN:OB 171 f171:=fun n h=>A9 n rfl rfl rfl func171 h
@[simp] theorem g0h:EQ 173 [] b4u c4t [] [] []:=⟨rfl,fun _=>⟨rfl,rfl,rfl,rfl,rfl⟩⟩
theorem e8e:OB 173 f173:=fun n h=>A9 n rfl rfl rfl func173 h
@[simp] theorem f3u:EQ 174 [] b7g c3u [] [] []:=⟨rfl,fun _=>⟨rfl,rfl,rfl,rfl,rfl⟩⟩
theorem e1k:OB 174 f174:=fun n h=>A9 n rfl rfl rfl func174 h
@[simp] theorem f7t:EQ 175 [] Zg b6l [] [] []:=⟨rfl,fun _=>⟨rfl,rfl,rfl,rfl,rfl⟩⟩
theorem d8z:OB 175 f175:=fun n h=>A9 n rfl rfl rfl func175 h
@[simp] theorem f7u:EQ 176 [] Yq b5n [] [] [1,2,3]:=⟨rfl,fun _=>⟨rfl,rfl,rfl,rfl,rfl⟩⟩
theorem f2y:OB 176 f176:=fun n h=>A9 n rfl rfl rfl func176 h
@[simp] theorem f4o:EQ 177 [] c1o c8f [] [] []:=⟨rfl,fun _=>⟨rfl,rfl,rfl,rfl,rfl⟩⟩
theorem d3a:OB 177 f177:=fun n h=>A9 n rfl rfl rfl func177 h
@[simp] theorem f5z:EQ 178 [] Xb a0l [] [] []:=⟨rfl,fun _=>⟨rfl,rfl,rfl,rfl,rfl⟩⟩
theorem d9s:OB 178 f178:=fun n h=>A9 n rfl rfl rfl func178 h
@[simp] theorem f8j:EQ 179 [] b2x b4w [] [] []:=⟨rfl,fun _=>⟨rfl,rfl,rfl,rfl,rfl⟩⟩
theorem d2r:OB 179 f179:=fun n h=>A9 n rfl rfl rfl func179 h
@[simp] theorem f3z:EQ 180 [] Yw b5y [] [] []:=⟨rfl,fun _=>⟨rfl,rfl,rfl,rfl,rfl⟩⟩
theorem d2e:OB 180 f180:=fun n h=>A9 n rfl rfl rfl func180 h
@[simp] theorem f7q:EQ 181 [] b9w b6a [] [] []:=⟨rfl,fun _=>⟨rfl,rfl,rfl,rfl,rfl⟩⟩
theorem Zr:OB 181 f181:=fun n h=>A9 n rfl rfl rfl func181 h
@[simp] theorem f8k:EQ 182 [] b5l c9f [] [8,18,21] []:=⟨rfl,fun _=>⟨rfl,rfl,rfl,rfl,rfl⟩⟩
theorem e9c:OB 182 f182:=fun n h=>A9 n rfl rfl rfl func182 h
@[simp] theorem f5s:EQ 183 [] c0j b7k [] [6] [1,2,3]:=⟨rfl,fun _=>⟨rfl,rfl,rfl,rfl,rfl⟩⟩
theorem f2k:OB 183 f183:=fun n h=>A9 n rfl rfl rfl func183 h
@[simp] theorem f8u:EQ 184 [] b2u b1w [] [9] [1,2,3]:=⟨rfl,fun _=>⟨rfl,rfl,rfl,rfl,rfl⟩⟩
theorem f3d:OB 184 f184:=fun n h=>A9 n rfl rfl rfl func184 h
@[simp] theorem f4k:EQ 185 [] a0g a7t [] [] []:=⟨rfl,fun _=>⟨rfl,rfl,rfl,rfl,rfl⟩⟩
theorem b6s:OB 185 f185:=fun n h=>A9 n rfl rfl rfl func185 h
@[simp] theorem f7x:EQ 186 [] a7z c8s a5z [] []:=⟨rfl,fun _=>⟨rfl,rfl,rfl,rfl,rfl⟩⟩
theorem e4j:OB 186 f186:=fun n h=>A9 n rfl rfl rfl func186 h
@[simp] theorem f7n:EQ 187 [] a2m a8e [] [8,16,19] [5]:=⟨rfl,fun _=>⟨rfl,rfl,rfl,rfl,rfl⟩⟩
theorem e6d:OB 187 f187:=fun n h=>A9 n rfl rfl rfl func187 h
@[simp] theorem f4j:EQ 188 [] a2r c5c c6p [5,8,11] [1,2]:=⟨rfl,fun _=>⟨rfl,rfl,rfl,rfl,rfl⟩⟩
theorem d4n:OB 188 f188:=fun n h=>A9 n rfl rfl rfl func188 h
@[simp] theorem f4b:EQ 189 [] Ws b3v [] [] []:=⟨rfl,fun _=>⟨rfl,rfl,rfl,rfl,rfl⟩⟩
theorem e2h:OB 189 f189:=fun n h=>A9 n rfl rfl rfl func189 h
@[simp] theorem f9e:EQ 190 [] c4d c8q [] [] []:=⟨rfl,fun _=>⟨rfl,rfl,rfl,rfl,rfl⟩⟩
theorem d4z:OB 190 f190:=fun n h=>A9 n rfl rfl rfl func190 h
@[simp] theorem f5b:EQ 191 [] c7p a2h [] [] []:=⟨rfl,fun _=>⟨rfl,rfl,rfl,rfl,rfl⟩⟩
theorem d5e:OB 191 f191:=fun n h=>A9 n rfl rfl rfl func191 h
@[simp] theorem g0i:EQ 192 [] Xn b6f [] [] []:=⟨rfl,fun _=>⟨rfl,rfl,rfl,rfl,rfl⟩⟩
theorem e6z:OB 192 f192:=fun n h=>A9 n rfl rfl rfl func192 h
@[simp] theorem f6m:EQ 193 [.M,.R] a5o c9i [] [] []:=⟨rfl,fun _=>⟨rfl,rfl,rfl,rfl,rfl⟩⟩
theorem uP:OB 193 f193:=fun n h=>A9 n rfl rfl rfl func193 h
@[simp] theorem f5p:EQ 194 [] Ty Uc Qq [] []:=⟨rfl,fun _=>⟨rfl,rfl,rfl,rfl,rfl⟩⟩
theorem e4d:OB 194 f194:=fun n h=>A9 n rfl rfl rfl func194 h
@[simp] theorem f7z:EQ 195 [] b6d b3z [] [] []:=⟨rfl,fun _=>⟨rfl,rfl,rfl,rfl,rfl⟩⟩
theorem d1p:OB 195 f195:=fun n h=>A9 n rfl rfl rfl func195 h
@[simp] theorem f6f:EQ 196 [] a0c Wz [] [] []:=⟨rfl,fun _=>⟨rfl,rfl,rfl,rfl,rfl⟩⟩
theorem f2a:OB 196 f196:=fun n h=>A9 n rfl rfl rfl func196 h
@[simp] theorem f4e:EQ 197 [.R,.N,.R] c0k Xc [] [] []:=⟨rfl,fun _=>⟨rfl,rfl,rfl,rfl,rfl⟩⟩
theorem d2i:OB 197 f197:=fun n h=>A9 n rfl rfl rfl func197 h
@[simp] theorem f5f:EQ 198 [] a5r d0b [] [] []:=⟨rfl,fun _=>⟨rfl,rfl,rfl,rfl,rfl⟩⟩
theorem e6o:OB 198 f198:=fun n h=>A9 n rfl rfl rfl func198 h
@[simp] theorem f9p:EQ 199 [] b5v a8y [] [] []:=⟨rfl,fun _=>⟨rfl,rfl,rfl,rfl,rfl⟩⟩
theorem f3c:OB 199 f199:=fun n h=>A9 n rfl rfl rfl func199 h
@[simp] theorem f7o:EQ 200 [.M,.R] b3j c0u [] [] []:=⟨rfl,fun _=>⟨rfl,rfl,rfl,rfl,rfl⟩⟩
theorem d3b:OB 200 f200:=fun n h=>A9 n rfl rfl rfl func200 h
@[simp] theorem f6o:EQ 201 [] c0a c7g [] [] []:=⟨rfl,fun _=>⟨rfl,rfl,rfl,rfl,rfl⟩⟩
theorem e9m:OB 201 f201:=fun n h=>A9 n rfl rfl rfl func201 h
@[simp] theorem f4s:EQ 202 [] Ms Tt Ti [] []:=⟨rfl,fun _=>⟨rfl,rfl,rfl,rfl,rfl⟩⟩
theorem f0h:OB 202 f202:=fun n h=>A9 n rfl rfl rfl func202 h
@[simp] theorem f8h:EQ 204 [] a8t b4b c5u [] []:=⟨rfl,fun _=>⟨rfl,rfl,rfl,rfl,rfl⟩⟩
theorem d1k:OB 204 f204:=fun n h=>A9 n rfl rfl rfl func204 h
@[simp] theorem f4i:EQ 217 [.V,.R] Jq Ql Sz [] []:=⟨rfl,fun _=>⟨rfl,rfl,rfl,rfl,rfl⟩⟩
@[simp] theorem f9j:EQ 218 [] Lw Ji Ld [] []:=⟨rfl,fun _=>⟨rfl,rfl,rfl,rfl,rfl⟩⟩
theorem e3z:OB 218 f218:=fun n h=>A9 n rfl rfl rfl func218 h
@[simp] theorem f8s:EQ 219 [] a4e b1g [] [8,12,21,23,29] [2,4,6]:=⟨rfl,fun _=>⟨rfl,rfl,rfl,rfl,rfl⟩⟩
theorem Nh:OB 219 f219:=fun n h=>A9 n rfl rfl rfl func219 h
@[simp] theorem f9m:EQ 221 [] b5r a4n b9h [25] [2,4,6,40]:=⟨rfl,fun _=>⟨rfl,rfl,rfl,rfl,rfl⟩⟩
theorem Pf:OB 221 f221:=fun n h=>A9 n rfl rfl rfl func221 h
@[simp] theorem f9i:EQ 222 [] a4v b5s [] [] []:=⟨rfl,fun _=>⟨rfl,rfl,rfl,rfl,rfl⟩⟩
theorem e4q:OB 222 f222:=fun n h=>A9 n rfl rfl rfl func222 h
@[simp] theorem f5y:EQ 223 [] b5x a2z c3y [] []:=⟨rfl,fun _=>⟨rfl,rfl,rfl,rfl,rfl⟩⟩
theorem f1j:OB 223 f223:=fun n h=>A9 n rfl rfl rfl func223 h
@[simp] theorem f9h:EQ 224 [] b7o c3b [] [] []:=⟨rfl,fun _=>⟨rfl,rfl,rfl,rfl,rfl⟩⟩
theorem d9a:OB 224 f224:=fun n h=>A9 n rfl rfl rfl func224 h
@[simp] theorem f8d:EQ 225 [] b1z Yy [] [] []:=⟨rfl,fun _=>⟨rfl,rfl,rfl,rfl,rfl⟩⟩
theorem e6f:OB 225 f225:=fun n h=>A9 n rfl rfl rfl func225 h
@[simp] theorem f8l:EQ 226 [.N,.R] a1p a9d [] [] []:=⟨rfl,fun _=>⟨rfl,rfl,rfl,rfl,rfl⟩⟩
theorem e5m:OB 226 f226:=fun n h=>A9 n rfl rfl rfl func226 h
@[simp] theorem g0d:EQ 227 [] c7j c4c [] [] []:=⟨rfl,fun _=>⟨rfl,rfl,rfl,rfl,rfl⟩⟩
theorem e0g:OB 227 f227:=fun n h=>A9 n rfl rfl rfl func227 h
@[simp] theorem f6y:EQ 228 [] a5y c2z [] [] []:=⟨rfl,fun _=>⟨rfl,rfl,rfl,rfl,rfl⟩⟩
theorem e3a:OB 228 f228:=fun n h=>A9 n rfl rfl rfl func228 h
@[simp] theorem f4u:EQ 229 [] b1j b8y [] [] []:=⟨rfl,fun _=>⟨rfl,rfl,rfl,rfl,rfl⟩⟩
theorem e7f:OB 229 f229:=fun n h=>A9 n rfl rfl rfl func229 h
@[simp] theorem g0e:EQ 230 [] c5t a1v [] [] []:=⟨rfl,fun _=>⟨rfl,rfl,rfl,rfl,rfl⟩⟩
theorem f3e:OB 230 f230:=fun n h=>A9 n rfl rfl rfl func230 h
@[simp] theorem f4l:EQ 231 [] b6e a0e [] [] [1,2,3]:=⟨rfl,fun _=>⟨rfl,rfl,rfl,rfl,rfl⟩⟩
theorem e9w:OB 231 f231:=fun n h=>A9 n rfl rfl rfl func231 h
@[simp] theorem f7a:EQ 232 [.R,.M] a7o c5m a7b [] []:=⟨rfl,fun _=>⟨rfl,rfl,rfl,rfl,rfl⟩⟩
theorem e4b:OB 232 f232:=fun n h=>A9 n rfl rfl rfl func232 h
@[simp] theorem f3v:EQ 233 [] a0i a9m [] [] []:=⟨rfl,fun _=>⟨rfl,rfl,rfl,rfl,rfl⟩⟩
theorem d5h:OB 233 f233:=fun n h=>A9 n rfl rfl rfl func233 h
@[simp] theorem f4y:EQ 234 [] a4j b9d a0a [] []:=⟨rfl,fun _=>⟨rfl,rfl,rfl,rfl,rfl⟩⟩
theorem f1i:OB 234 f234:=fun n h=>A9 n rfl rfl rfl func234 h
@[simp] theorem f7e:EQ 235 [] Wq a9q [] [] []:=⟨rfl,fun _=>⟨rfl,rfl,rfl,rfl,rfl⟩⟩
theorem Qf:OB 235 f235:=fun n h=>A9 n rfl rfl rfl func235 h
@[simp] theorem f9g:EQ 236 [] a3a Yk [] [] []:=⟨rfl,fun _=>⟨rfl,rfl,rfl,rfl,rfl⟩⟩
theorem d8w:OB 236 f236:=fun n h=>A9 n rfl rfl rfl func236 h
@[simp] theorem f8y:EQ 237 [.M,.R] c8t c7o [] [] []:=⟨rfl,fun _=>⟨rfl,rfl,rfl,rfl,rfl⟩⟩
theorem e5k:OB 237 f237:=fun n h=>A9 n rfl rfl rfl func237 h
@[simp] theorem f3s:EQ 238 [] c6l b2t [] [] []:=⟨rfl,fun _=>⟨rfl,rfl,rfl,rfl,rfl⟩⟩
theorem d8h:OB 238 f238:=fun n h=>A9 n rfl rfl rfl func238 h
@[simp] theorem f5k:EQ 239 [.M,.R] b2a c0y a8j [] []:=⟨rfl,fun _=>⟨rfl,rfl,rfl,rfl,rfl⟩⟩
theorem b9z:OB 239 f239:=fun n h=>A9 n rfl rfl rfl func239 h
@[simp] theorem f6l:EQ 240 [] b6h c7b [] [] []:=⟨rfl,fun _=>⟨rfl,rfl,rfl,rfl,rfl⟩⟩
theorem d4p:OB 240 f240:=fun n h=>A9 n rfl rfl rfl func240 h
@[simp] theorem f4x:EQ 241 [] a4u c0c [] [] []:=⟨rfl,fun _=>⟨rfl,rfl,rfl,rfl,rfl⟩⟩
theorem e1z:OB 241 f241:=fun n h=>A9 n rfl rfl rfl func241 h
@[simp] theorem f6s:EQ 242 [] a4w b8p [] [9,20,25,30] [5]:=⟨rfl,fun _=>⟨rfl,rfl,rfl,rfl,rfl⟩⟩
theorem e2r:OB 242 f242:=fun n h=>A9 n rfl rfl rfl func242 h
@[simp] theorem f4m:EQ 243 [] a3o a6g [] [12,16,20] [1,2,3]:=⟨rfl,fun _=>⟨rfl,rfl,rfl,rfl,rfl⟩⟩
theorem d9q:OB 243 f243:=fun n h=>A9 n rfl rfl rfl func243 h
@[simp] theorem f9b:EQ 244 [] b1m b2c [] [] []:=⟨rfl,fun _=>⟨rfl,rfl,rfl,rfl,rfl⟩⟩
theorem d0v:OB 244 f244:=fun n h=>A9 n rfl rfl rfl func244 h
@[simp] theorem f9u:EQ 245 [] a3b Wo [] [] []:=⟨rfl,fun _=>⟨rfl,rfl,rfl,rfl,rfl⟩⟩
theorem f0o:OB 245 f245:=fun n h=>A9 n rfl rfl rfl func245 h
@[simp] theorem f6x:EQ 246 [] Yo Yl c5r [8,15,18,24] [5]:=⟨rfl,fun _=>⟨rfl,rfl,rfl,rfl,rfl⟩⟩
theorem e3y:OB 246 f246:=fun n h=>A9 n rfl rfl rfl func246 h
@[simp] theorem f6g:EQ 247 [] b2p b5c b0b [] []:=⟨rfl,fun _=>⟨rfl,rfl,rfl,rfl,rfl⟩⟩
theorem d8u:OB 247 f247:=fun n h=>A9 n rfl rfl rfl func247 h
@[simp] theorem f4w:EQ 248 [] c3v Zs [] [] []:=⟨rfl,fun _=>⟨rfl,rfl,rfl,rfl,rfl⟩⟩
theorem d9e:OB 248 f248:=fun n h=>A9 n rfl rfl rfl func248 h
@[simp] theorem f7i:EQ 249 [] Yu b4e [] [] []:=⟨rfl,fun _=>⟨rfl,rfl,rfl,rfl,rfl⟩⟩
theorem e4v:OB 249 f249:=fun n h=>A9 n rfl rfl rfl func249 h
@[simp] theorem f5e:EQ 250 [] c6n b7v [] [] []:=⟨rfl,fun _=>⟨rfl,rfl,rfl,rfl,rfl⟩⟩
theorem e9h:OB 250 f250:=fun n h=>A9 n rfl rfl rfl func250 h
@[simp] theorem f8b:EQ 251 [] c7f a4d [] [] []:=⟨rfl,fun _=>⟨rfl,rfl,rfl,rfl,rfl⟩⟩
theorem d3v:OB 251 f251:=fun n h=>A9 n rfl rfl rfl func251 h
@[simp] theorem f4a:EQ 252 [] a6s b7e [] [] []:=⟨rfl,fun _=>⟨rfl,rfl,rfl,rfl,rfl⟩⟩
theorem f0v:OB 252 f252:=fun n h=>A9 n rfl rfl rfl func252 h
@[simp] theorem f6z:EQ 253 [] c0o a8d [] [] []:=⟨rfl,fun _=>⟨rfl,rfl,rfl,rfl,rfl⟩⟩
theorem d4d:OB 253 f253:=fun n h=>A9 n rfl rfl rfl func253 h
@[simp] theorem f5a:EQ 260 [] Kw Ow Jt [] []:=⟨rfl,fun _=>⟨rfl,rfl,rfl,rfl,rfl⟩⟩
theorem e9i:OB 260 f260:=fun n h=>A9 n rfl rfl rfl func260 h
@[simp] theorem f7y:EQ 262 [] c0h c3c [] [] []:=⟨rfl,fun _=>⟨rfl,rfl,rfl,rfl,rfl⟩⟩
theorem d3z:OB 262 f262:=fun n h=>A9 n rfl rfl rfl func262 h
@[simp] theorem f4g:EQ 263 [] a4k c9w [] [] []:=⟨rfl,fun _=>⟨rfl,rfl,rfl,rfl,rfl⟩⟩
theorem e1m:OB 263 f263:=fun n h=>A9 n rfl rfl rfl func263 h
@[simp] theorem f0m:EQ 264 [] a1a c7v [] [] []:=⟨rfl,fun _=>⟨rfl,rfl,rfl,rfl,rfl⟩⟩
theorem e2g:OB 264 f264:=fun n h=>A9 n rfl rfl rfl func264 h
@[simp] theorem f4c:EQ 265 [] b1n a7u [] [] []:=⟨rfl,fun _=>⟨rfl,rfl,rfl,rfl,rfl⟩⟩
theorem d8k:OB 265 f265:=fun n h=>A9 n rfl rfl rfl func265 h
@[simp] theorem f5j:EQ 266 [] b2i a6v [] [] []:=⟨rfl,fun _=>⟨rfl,rfl,rfl,rfl,rfl⟩⟩
theorem d8d:OB 266 f266:=fun n h=>A9 n rfl rfl rfl func266 h
@[simp] theorem f4z:EQ 267 [] b3d b3l [] [] []:=⟨rfl,fun _=>⟨rfl,rfl,rfl,rfl,rfl⟩⟩
theorem Vm:OB 267 f267:=fun n h=>A9 n rfl rfl rfl func267 h
@[simp] theorem f8o:EQ 268 [] c7y c0v [] [] []:=⟨rfl,fun _=>⟨rfl,rfl,rfl,rfl,rfl⟩⟩
theorem e2o:OB 268 f268:=fun n h=>A9 n rfl rfl rfl func268 h
@[simp] theorem f6r:EQ 269 [] a6d c5g [] [] []:=⟨rfl,fun _=>⟨rfl,rfl,rfl,rfl,rfl⟩⟩
theorem d1x:OB 269 f269:=fun n h=>A9 n rfl rfl rfl func269 h
@[simp] theorem f9c:EQ 270 [] c4i b5k [] [] []:=⟨rfl,fun _=>⟨rfl,rfl,rfl,rfl,rfl⟩⟩
theorem f1m:OB 270 f270:=fun n h=>A9 n rfl rfl rfl func270 h
@[simp] theorem f9a:EQ 271 [] a8h b0g [] [] []:=⟨rfl,fun _=>⟨rfl,rfl,rfl,rfl,rfl⟩⟩
theorem f1y:OB 271 f271:=fun n h=>A9 n rfl rfl rfl func271 h
@[simp] theorem f9d:EQ 272 [] c5l b9u [] [] []:=⟨rfl,fun _=>⟨rfl,rfl,rfl,rfl,rfl⟩⟩
theorem d8i:OB 272 f272:=fun n h=>A9 n rfl rfl rfl func272 h
@[simp] theorem f9n:EQ 273 [.M,.R] c3a a6q a1u [] []:=⟨rfl,fun _=>⟨rfl,rfl,rfl,rfl,rfl⟩⟩
theorem f2x:OB 273 f273:=fun n h=>A9 n rfl rfl rfl func273 h
@[simp] theorem f3q:EQ 274 [.M] c2x c5a [] [] []:=⟨rfl,fun _=>⟨rfl,rfl,rfl,rfl,rfl⟩⟩
theorem e5w:OB 274 f274:=fun n h=>A9 n rfl rfl rfl func274 h
@[simp] theorem f5v:EQ 275 [] b9b a7j [] [] []:=⟨rfl,fun _=>⟨rfl,rfl,rfl,rfl,rfl⟩⟩
theorem d3f:OB 275 f275:=fun n h=>A9 n rfl rfl rfl func275 h
@[simp] theorem f4n:EQ 276 [] c9u c4j [] [] []:=⟨rfl,fun _=>⟨rfl,rfl,rfl,rfl,rfl⟩⟩
theorem Zf:OB 276 f276:=fun n h=>A9 n rfl rfl rfl func276 h
@[simp] theorem f8f:EQ 277 [] b4r c7s [] [] []:=⟨rfl,fun _=>⟨rfl,rfl,rfl,rfl,rfl⟩⟩
theorem d2o:OB 277 f277:=fun n h=>A9 n rfl rfl rfl func277 h
@[simp] theorem f5d:EQ 278 [] a4s c8l [] [] []:=⟨rfl,fun _=>⟨rfl,rfl,rfl,rfl,rfl⟩⟩
theorem f0l:OB 278 f278:=fun n h=>A9 n rfl rfl rfl func278 h
@[simp] theorem f4f:EQ 279 [] a9c c3q [] [] []:=⟨rfl,fun _=>⟨rfl,rfl,rfl,rfl,rfl⟩⟩
theorem c0t:OB 279 f279:=fun n h=>A9 n rfl rfl rfl func279 h
@[simp] theorem f7v:EQ 280 [] Xi c4s [] [] []:=⟨rfl,fun _=>⟨rfl,rfl,rfl,rfl,rfl⟩⟩
theorem Jk:OB 280 f280:=fun n h=>A9 n rfl rfl rfl func280 h
@[simp] theorem f6d:EQ 281 [] c6h b1v [] [] []:=⟨rfl,fun _=>⟨rfl,rfl,rfl,rfl,rfl⟩⟩
theorem e4z:OB 281 f281:=fun n h=>A9 n rfl rfl rfl func281 h
@[simp] theorem f6i:EQ 282 [] b7l a9i [] [] []:=⟨rfl,fun _=>⟨rfl,rfl,rfl,rfl,rfl⟩⟩
theorem e1s:OB 282 f282:=fun n h=>A9 n rfl rfl rfl func282 h
@[simp] theorem f8n:EQ 283 [] c8h b4q [] [] []:=⟨rfl,fun _=>⟨rfl,rfl,rfl,rfl,rfl⟩⟩
theorem e1q:OB 283 f283:=fun n h=>A9 n rfl rfl rfl func283 h
@[simp] theorem f8g:EQ 284 [] a1l b4k a7g [] []:=⟨rfl,fun _=>⟨rfl,rfl,rfl,rfl,rfl⟩⟩
theorem d2p:OB 284 f284:=fun n h=>A9 n rfl rfl rfl func284 h
@[simp] theorem g0j:EQ 285 [] Mj Oc On [] []:=⟨rfl,fun _=>⟨rfl,rfl,rfl,rfl,rfl⟩⟩
@[simp] theorem f6c:EQ 286 [] Xk a2n [] [] []:=⟨rfl,fun _=>⟨rfl,rfl,rfl,rfl,rfl⟩⟩
theorem e3w:OB 286 f286:=fun n h=>A9 n rfl rfl rfl func286 h
@[simp] theorem f5x:EQ 287 [] b1k Zm [] [] []:=⟨rfl,fun _=>⟨rfl,rfl,rfl,rfl,rfl⟩⟩
theorem e9p:OB 287 f287:=fun n h=>A9 n rfl rfl rfl func287 h
@[simp] theorem f5t:EQ 288 [] c6x b0a [] [] []:=⟨rfl,fun _=>⟨rfl,rfl,rfl,rfl,rfl⟩⟩
theorem d1a:OB 288 f288:=fun n h=>A9 n rfl rfl rfl func288 h
@[simp] theorem f3p:EQ 294 [] a1w a3p [] [] []:=⟨rfl,fun _=>⟨rfl,rfl,rfl,rfl,rfl⟩⟩
theorem e6n:OB 294 f294:=fun n h=>A9 n rfl rfl rfl func294 h
@[simp] theorem f5i:EQ 295 [.R,.R,.V] b0k c0m [] [24,38] []:=⟨rfl,fun _=>⟨rfl,rfl,rfl,rfl,rfl⟩⟩
theorem d5l:OB 295 f295:=fun n h=>A9 n rfl rfl rfl func295 h
@[simp] theorem f8t:EQ 296 [] a4p c3j [] [] []:=⟨rfl,fun _=>⟨rfl,rfl,rfl,rfl,rfl⟩⟩
theorem d9p:OB 296 f296:=fun n h=>A9 n rfl rfl rfl func296 h
@[simp] theorem f9y:EQ 297 [] a8o c2e [] [] []:=⟨rfl,fun _=>⟨rfl,rfl,rfl,rfl,rfl⟩⟩
theorem d6e:OB 297 f297:=fun n h=>A9 n rfl rfl rfl func297 h
@[simp] theorem g0f:EQ 298 [] b6w c9e [] [] []:=⟨rfl,fun _=>⟨rfl,rfl,rfl,rfl,rfl⟩⟩
theorem d8g:OB 298 f298:=fun n h=>A9 n rfl rfl rfl func298 h
@[simp] theorem f7b:EQ 299 [] a3x Xj [] [] []:=⟨rfl,fun _=>⟨rfl,rfl,rfl,rfl,rfl⟩⟩
theorem d5m:OB 299 f299:=fun n h=>A9 n rfl rfl rfl func299 h
@[simp] theorem f6k:EQ 300 [] Wk c6z a5f [] []:=⟨rfl,fun _=>⟨rfl,rfl,rfl,rfl,rfl⟩⟩
theorem d8f:OB 300 f300:=fun n h=>A9 n rfl rfl rfl func300 h
@[simp] theorem f4h:EQ 301 [] c3r Xa [] [] []:=⟨rfl,fun _=>⟨rfl,rfl,rfl,rfl,rfl⟩⟩
theorem e7j:OB 301 f301:=fun n h=>A9 n rfl rfl rfl func301 h
@[simp] theorem f4r:EQ 302 [] c8g b0m [] [] []:=⟨rfl,fun _=>⟨rfl,rfl,rfl,rfl,rfl⟩⟩
theorem e0b:OB 302 f302:=fun n h=>A9 n rfl rfl rfl func302 h
@[simp] theorem f6u:EQ 306 [] a3f b2g [] [] []:=⟨rfl,fun _=>⟨rfl,rfl,rfl,rfl,rfl⟩⟩
theorem e8c:OB 306 f306:=fun n h=>A9 n rfl rfl rfl func306 h
end Go.TM.Ft
