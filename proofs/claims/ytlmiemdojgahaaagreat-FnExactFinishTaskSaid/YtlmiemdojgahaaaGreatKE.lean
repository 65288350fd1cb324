/- The tables that the machine is told. -/
import Derived.Test.YtlmiemdojgahaaaGreatKE0
set_option linter.unusedSimpArgs false
set_option linter.unusedVariables false
namespace Go.TM.Ft
open Go Go.TM Go.Proofs Go.Proofs.Tryz
set_option maxRecDepth 100000
attribute [local congr] M0
attribute [local simp] f7m e3t d6g d8z e3u d9a d9b d9c d4j d2y d9d d6h d6i d4k e3v d9e d9f d4l e3w d9g d6j e3x d9h e3y d9i d2z d9j d6k d9k d6l f7n a2v a3i a1m a3e W3 G7 B2 Rd.of Rd.bind Rd.run Rd.touched St.val lk up a5z a0l St.apply setsOk setsApart a2g newOk setCells D1 strike a6q d0e only a4c N0 reX re1 re0 a3c b3a finish b1b a9q b6a a9p b1a a8e a3u b3d clean N5 D9 a6b a6j lends a4l a8n reP b5z a3n nxt b6i b5j b2s U4 a3s a7r b3b b1l c5q a5l far isN a6p a5k b0y b1p b3v a2a a9w a6a a4u a4a a2f a9b a7q a0n L9 O5 L5 Eff.with g2x e3n d8r g1x b6f f7g f7h g1v g1w a9h b5s c0c c0d d8s g2y g2z e3o f7i e3p f7j g3a g3b g3c d4i d2x d8t g1y g3d g3e f7k f7l e3q d8u e3r d8v d8w d8x e3s d8y content a6o a5i a9v a5u a8d c0j a0d a0e a5j a7x a9o b3l a7w W4 descend J3 U0 viewFrom b9d a7b a4k a1a bare D7 a5m b6m W7 b3m b3n stamp b0g b0h a1t b3c a2e b0u b0t Root.at_ newOk A8 a8g a2b a8o b1i b9x without args b5c W2 oneVal b0z b3o b3k D4 C5 T.cells
attribute [local simp] K2 K6 J4 K3 H7 J9 H8 G9 J1 G3
def a5p (e:TypeId) (args:List Arg):Option Res:=
 match args with
 | [⟨.sl e' es,none⟩]=>if e'=e∧es.all (·.all W7)=true∧es.length≤C2 then some ⟨.own e es,[],D9 es⟩ else none
 | _=>none
theorem a8q:E0.P=Tryz.prog:=rfl
theorem g9b (a:Option Addr) (c:Nat) (x y:Operand):D6 Tryz.prog (do eqGuard .eql 60 x y (.slice a 0 c) (.slice none 0 0); binOp .eql 60 (.slice a 0 c) (.slice none 0 0))=some (.bool a.isNone):=by
 cases a <;> kernel_rfl
theorem h5p (x:List T) (r:List (List T)) (h1:(x::r).all (·.all W7)=true) (h2:(x::r).length≤C2):
  orc E0 (149:Nat) [⟨.sl 150 (x::r),none⟩]=some ⟨.own 150 (x::r),[],D9 (x::r)⟩:=by
 have h3:r.length+1≤C2:=by simpa using h2
 refine e0g 1 ?_
 simp only [List.all_cons,Bool.and_eq_true] at h1
 simp (maxSteps:=1000000) +contextual -dsimp [f149,h1.1,h1.2,h3,List.set,a8q]
theorem h5q (a:Option Addr) (c:Nat):orc E0 (149:Nat) [⟨.v (.slice a 0 c),none⟩]=some ⟨.own 150 [],[],true⟩:=by
 have g:=g9b a c
 refine e0g 1 ?_
 cases a
 ·simp (maxSteps:=1000000) +contextual -dsimp [f149,g,List.set,a8q]
 ·simp (maxSteps:=1000000) +contextual -dsimp [f149,g,List.set,a8q]
theorem g9c (a:Option Addr) (c:Nat) (x y:Operand):D6 Tryz.prog (do eqGuard .eql 23 x y (.slice a 0 c) (.slice none 0 0); binOp .eql 23 (.slice a 0 c) (.slice none 0 0))=some (.bool a.isNone):=by
 cases a <;> kernel_rfl
theorem h5r (x:List T) (r:List (List T)) (h1:(x::r).all (·.all W7)=true) (h2:(x::r).length≤C2):
  orc E0 (170:Nat) [⟨.sl 2 (x::r),none⟩]=some ⟨.own 2 (x::r),[],D9 (x::r)⟩:=by
 have h3:r.length+1≤C2:=by simpa using h2
 refine e0h 1 ?_
 simp only [List.all_cons,Bool.and_eq_true] at h1
 simp (maxSteps:=1000000) +contextual -dsimp [f170,h1.1,h1.2,h3,List.set,a8q]
theorem h5s (a:Option Addr) (c:Nat):orc E0 (170:Nat) [⟨.v (.slice a 0 c),none⟩]=some ⟨.own 2 [],[],true⟩:=by
 have g:=g9c a c
 refine e0h 1 ?_
 cases a
 ·simp (maxSteps:=1000000) +contextual -dsimp [f170,g,List.set,a8q]
 ·simp (maxSteps:=1000000) +contextual -dsimp [f170,g,List.set,a8q]
theorem g9d (a:Option Addr) (c:Nat) (x y:Operand):D6 Tryz.prog (do eqGuard .eql 122 x y (.slice a 0 c) (.slice none 0 0); binOp .eql 122 (.slice a 0 c) (.slice none 0 0))=some (.bool a.isNone):=by
 cases a <;> kernel_rfl
theorem h5t (x:List T) (r:List (List T)) (h1:(x::r).all (·.all W7)=true) (h2:(x::r).length≤C2):
  orc E0 (285:Nat) [⟨.sl 219 (x::r),none⟩]=some ⟨.own 219 (x::r),[],D9 (x::r)⟩:=by
 have h3:r.length+1≤C2:=by simpa using h2
 refine e0i 1 ?_
 simp only [List.all_cons,Bool.and_eq_true] at h1
 simp (maxSteps:=1000000) +contextual -dsimp [f285,h1.1,h1.2,h3,List.set,a8q]
theorem h5u (a:Option Addr) (c:Nat):orc E0 (285:Nat) [⟨.v (.slice a 0 c),none⟩]=some ⟨.own 219 [],[],true⟩:=by
 have g:=g9d a c
 refine e0i 1 ?_
 cases a
 ·simp (maxSteps:=1000000) +contextual -dsimp [f285,g,List.set,a8q]
 ·simp (maxSteps:=1000000) +contextual -dsimp [f285,g,List.set,a8q]
theorem g7d {sz:TypeId→Nat} {z:Zn} {args args':List Arg} {us:List Value} {r:Res} {u:Value} {w':World} (hr:r.outs=[]) (hb:Back sz z args us r u w'):Back sz z args' us r u w':=by
 obtain ⟨h1,⟨f,fo,b1,b2,b3,b4⟩,h3⟩:=hb
 rw [hr] at b2
 exact ⟨h1,⟨f,fo,b1,by rw [hr]; exact b2,b3,b4⟩,h3⟩
theorem c4o {k:Nat} {e:TypeId} (hm:lends (E0.mode k)=false) (h1:∀ x r,(x::r).all (·.all W7)=true→(x::r).length≤C2→orc E0 k [⟨.sl e (x::r),none⟩]=some ⟨.own e (x::r),[],D9 (x::r)⟩)
  (h2:∀ a c,orc E0 k [⟨.v (.slice a 0 c),none⟩]=some ⟨.own e [],[],true⟩):∀ args r,a5p e args=some r→Sound E0 k args r∧Enters E0 k:=by
 intro args r h
 unfold a5p at h
 split at h
 ·rename_i e' es
  split at h
  ·rename_i hc
   obtain ⟨rfl,hc1,hc2⟩:=hc
   simp only [Option.some.injEq] at h
   subst h
   cases es with
   | cons x r=>exact b8d a8h (h1 x r hc1 hc2)
   | nil=>
    refine ⟨⟨fun hl=>by rw [hm] at hl; simp at hl,fun _ z us hu hb hok=>?_,fun hl=>by rw [hm] at hl; simp at hl,a8h.view _⟩,(b8d a8h (h2 none 0)).2⟩
    simp only [okArgs,a3j] at hok
    obtain ⟨u,us',f1,f2,rfl,hF,⟨hv,rfl⟩,rfl,rfl⟩:=hok
    simp only [okV] at hv
    obtain ⟨_,a,cap,rfl,_⟩:=hv
    have key:=(b8d a8h (h2 a cap)).1.old hm z [.slice a 0 cap] hu hb (by
     simp only [okArgs,a3j]
     exact ⟨_,[],[],[],rfl,hF,⟨by simp [okV],rfl⟩,rfl,rfl⟩)
    exact Calls.mono' key fun u w' hb=>g7d rfl hb
  ·simp at h
 ·simp at h
noncomputable def d0i:List (Nat × (List Arg→Option Res)):=[(101,b6j 150),(149,a5p 150),(170,a5p 2),(285,a5p 219)]
theorem i2r:∀ f g,lk d0i f=some g→∀ args r,g args=some r→Sound E0 f args r∧Enters E0 f:=by
 intro f g h
 unfold d0i at h
 simp only [lk] at h
 repeat' split at h
 ·rename_i hf; subst hf; simp only [Option.some.injEq] at h; subst h; exact i3y
 ·rename_i hf; subst hf; simp only [Option.some.injEq] at h; subst h; exact c4o rfl h5p h5q
 ·rename_i hf; subst hf; simp only [Option.some.injEq] at h; subst h; exact c4o rfl h5r h5s
 ·rename_i hf; subst hf; simp only [Option.some.injEq] at h; subst h; exact c4o rfl h5t h5u
 ·simp at h
end Go.TM.Ft
namespace Go.TM.Ft
open Go Go.TM Go.Proofs Go.Proofs.Tryz
set_option maxRecDepth 100000
noncomputable def E:Env:={ E0 with ext:=fun f=>lk d0i f }
noncomputable abbrev fo (f:Nat) (args:List Arg):Option Res:=orc E f args
@[simp] theorem i7p (f:Nat):E.view f=b1l f:=rfl
@[simp] theorem i7r (f r:Nat):E.clr f r=b6i f r:=rfl
theorem E_P:E.P=Tryz.prog:=rfl
theorem i6z:Able E:=⟨fun t i h=>by
 obtain ⟨h1,h2,h3,h4,h5,h6,h7,h8⟩:=a8h.ti t i h
 exact ⟨h1,h2,h3,h4,h5,h6,h7,h8⟩,a8h.mix,a8h.good,fun f g hg args r hr=>by
 obtain ⟨⟨h1,h2,h3,h5⟩,h4⟩:=i2r f g hg args r hr
 exact ⟨⟨h1,h2,h3,h5⟩,h4⟩,a8h.view⟩
@[simp] theorem tiA:E.ti 2=some ty2∧E.ti 3=some ty3∧E.ti 4=some ty4∧E.ti 5=some ty5∧E.ti 9=some ty9∧E.ti 22=some d0j∧E.ti 23=some d0k∧E.ti 30=some d0l∧E.ti 34=some d0m∧E.ti 48=some d0n∧E.ti 49=some d0o∧E.ti 51=some d0p∧E.ti 52=some d0q∧E.ti 54=some d0r∧E.ti 56=some d0s∧E.ti 57=some d0t∧E.ti 59=some d0u∧E.ti 60=some d0v∧E.ti 62=some d0w∧E.ti 64=some d0x∧E.ti 74=some d0y∧E.ti 88=some d0z∧E.ti 109=some c8t∧E.ti 111=some c8u∧E.ti 116=some c8v∧E.ti 122=some c8w∧E.ti 124=some c8x∧E.ti 139=some c8y∧E.ti 150=some c8z∧E.ti 156=some c9a∧E.ti 160=some c9b∧E.ti 163=some c9c∧E.ti 179=some c9d∧E.ti 180=some c9e∧E.ti 213=some c9f∧E.ti 215=some c9g∧E.ti 219=some c9h∧E.ti 222=some c9i∧E.ti 225=some c9j∧E.ti 227=some c9k∧E.ti 229=some c9l∧E.ti 231=some c9m∧E.ti 245=some c9n∧E.ti 256=some c9o∧E.ti 267=some c9p∧E.ti 268=some c9q∧E.ti 270=some c9r∧E.ti 281=some c9s∧E.ti 294=some c9t∧E.ti 307=some c9u∧E.ti 312=some c9v∧E.ti 325=some c9w∧E.ti 331=some c9x:=⟨rfl,rfl,rfl,rfl,rfl,rfl,rfl,rfl,rfl,rfl,rfl,rfl,rfl,rfl,rfl,rfl,rfl,rfl,rfl,rfl,rfl,rfl,rfl,rfl,rfl,rfl,rfl,rfl,rfl,rfl,rfl,rfl,rfl,rfl,rfl,rfl,rfl,rfl,rfl,rfl,rfl,rfl,rfl,rfl,rfl,rfl,rfl,rfl,rfl,rfl,rfl,rfl,rfl⟩
abbrev EQ (k:Nat) (m:List Mode) (l:LvT) (q:KlT) (p:PrT) (a b:List Nat):Prop:=E.mode k=m∧∀ r:Nat,E.kill k r=(lk q r).getD []∧E.live k r=lk l r∧E.pairs k r=(lk p r).getD []∧E.keep k r=a.contains r∧E.take k r=b.contains r
@[simp] theorem e11:EQ 11 [] f7t f9g e4l [21,25,35,37,39,45,48,52,53,57,58,62,65,71,76,79,86,91,92,95,99] [5,12,13,15,19]:=⟨rfl,fun _=>⟨rfl,rfl,rfl,rfl,rfl⟩⟩
abbrev OB (k:Nat) (f:Func):Prop:=∀ {args:List Arg} {r:Res} (n:Nat),a3v E (orc E) n k f args=some r→fo k args=some r
theorem b9p:OB 11 f11:=fun n h=>A3 n rfl rfl rfl func11 h
@[simp] theorem e13:EQ 13 [] f7u f9h [] [] []:=⟨rfl,fun _=>⟨rfl,rfl,rfl,rfl,rfl⟩⟩
theorem i2s:OB 13 f13:=fun n h=>A3 n rfl rfl rfl func13 h
@[simp] theorem e16:EQ 16 [] f7v f9i [] [6,10,20] []:=⟨rfl,fun _=>⟨rfl,rfl,rfl,rfl,rfl⟩⟩
theorem i2t:OB 16 f16:=fun n h=>A3 n rfl rfl rfl func16 h
@[simp] theorem e17:EQ 17 [] f7w f9j [] [6,10] []:=⟨rfl,fun _=>⟨rfl,rfl,rfl,rfl,rfl⟩⟩
theorem i2u:OB 17 f17:=fun n h=>A3 n rfl rfl rfl func17 h
@[simp] theorem e21:EQ 21 [] f7x f9k [] [] []:=⟨rfl,fun _=>⟨rfl,rfl,rfl,rfl,rfl⟩⟩
theorem i2v:OB 21 f21:=fun n h=>A3 n rfl rfl rfl func21 h
@[simp] theorem e22:EQ 22 [] f7y f9l [] [] []:=⟨rfl,fun _=>⟨rfl,rfl,rfl,rfl,rfl⟩⟩
theorem i2w:OB 22 f22:=fun n h=>A3 n rfl rfl rfl func22 h
@[simp] theorem e24:EQ 24 [.L,.P] f7z f9m [] [] []:=⟨rfl,fun _=>⟨rfl,rfl,rfl,rfl,rfl⟩⟩
theorem i2x:OB 24 f24:=fun n h=>A3 n rfl rfl rfl func24 h
@[simp] theorem e25:EQ 25 [.L,.P] f8a f9n [] [] []:=⟨rfl,fun _=>⟨rfl,rfl,rfl,rfl,rfl⟩⟩
theorem i2y:OB 25 f25:=fun n h=>A3 n rfl rfl rfl func25 h
@[simp] theorem e29:EQ 29 [] f8b f9o [] [] []:=⟨rfl,fun _=>⟨rfl,rfl,rfl,rfl,rfl⟩⟩
theorem i2z:OB 29 f29:=fun n h=>A3 n rfl rfl rfl func29 h
@[simp] theorem e31:EQ 31 [] f8c f9p [] [6,10] [1,2,3]:=⟨rfl,fun _=>⟨rfl,rfl,rfl,rfl,rfl⟩⟩
theorem i3a:OB 31 f31:=fun n h=>A3 n rfl rfl rfl func31 h
@[simp] theorem e33:EQ 33 [] f8d f9q [] [] []:=⟨rfl,fun _=>⟨rfl,rfl,rfl,rfl,rfl⟩⟩
theorem i3b:OB 33 f33:=fun n h=>A3 n rfl rfl rfl func33 h
@[simp] theorem e34:EQ 34 [] f8e f9r [] [] []:=⟨rfl,fun _=>⟨rfl,rfl,rfl,rfl,rfl⟩⟩
theorem i3c:OB 34 f34:=fun n h=>A3 n rfl rfl rfl func34 h
@[simp] theorem e35:EQ 35 [.L,.B] f8f f9s [] [] []:=⟨rfl,fun _=>⟨rfl,rfl,rfl,rfl,rfl⟩⟩
theorem i3d {args r} (n) (h:a1e E (orc E) n (35:Nat) f35 args=some r):fo 35 args=some r:=c4n n rfl rfl rfl func35 h
@[simp] theorem e36:EQ 36 [.L,.B] f8g f9t [] [] []:=⟨rfl,fun _=>⟨rfl,rfl,rfl,rfl,rfl⟩⟩
theorem i3e {args r} (n) (h:a1e E (orc E) n (36:Nat) f36 args=some r):fo 36 args=some r:=c4n n rfl rfl rfl func36 h
@[simp] theorem e37:EQ 37 [] f8h f9u [] [] []:=⟨rfl,fun _=>⟨rfl,rfl,rfl,rfl,rfl⟩⟩
theorem i3f:OB 37 f37:=fun n h=>A3 n rfl rfl rfl func37 h
@[simp] theorem e38:EQ 38 [] f8i f9v [] [] []:=⟨rfl,fun _=>⟨rfl,rfl,rfl,rfl,rfl⟩⟩
theorem i3g:OB 38 f38:=fun n h=>A3 n rfl rfl rfl func38 h
@[simp] theorem e40:EQ 40 [] f8j f9w [] [6,10] [1,2,3]:=⟨rfl,fun _=>⟨rfl,rfl,rfl,rfl,rfl⟩⟩
theorem i3h:OB 40 f40:=fun n h=>A3 n rfl rfl rfl func40 h
@[simp] theorem e43:EQ 43 [] f8k f9x [] [] []:=⟨rfl,fun _=>⟨rfl,rfl,rfl,rfl,rfl⟩⟩
theorem i3i:OB 43 f43:=fun n h=>A3 n rfl rfl rfl func43 h
@[simp] theorem e44:EQ 44 [.L,.B] f8l f9y [] [] []:=⟨rfl,fun _=>⟨rfl,rfl,rfl,rfl,rfl⟩⟩
theorem i3j {args r} (n) (h:a1e E (orc E) n (44:Nat) f44 args=some r):fo 44 args=some r:=c4n n rfl rfl rfl func44 h
@[simp] theorem e49:EQ 49 [] f8m f9z [] [12,16,34,35] [4,8,10]:=⟨rfl,fun _=>⟨rfl,rfl,rfl,rfl,rfl⟩⟩
theorem f7p:OB 49 f49:=fun n h=>A3 n rfl rfl rfl func49 h
@[simp] theorem e50:EQ 50 [] f8n g0a e4m [13,27,32,33] [4,8,10]:=⟨rfl,fun _=>⟨rfl,rfl,rfl,rfl,rfl⟩⟩
theorem f7q:OB 50 f50:=fun n h=>A3 n rfl rfl rfl func50 h
@[simp] theorem e64:EQ 64 [] f8o g0b e4n [19,25,37] [5,10]:=⟨rfl,fun _=>⟨rfl,rfl,rfl,rfl,rfl⟩⟩
theorem b9q:OB 64 f64:=fun n h=>A3 n rfl rfl rfl func64 h
@[simp] theorem e65:EQ 65 [] f8p g0c [] [19,28,32,39,40] [5,10]:=⟨rfl,fun _=>⟨rfl,rfl,rfl,rfl,rfl⟩⟩
theorem c7x:OB 65 f65:=fun n h=>A3 n rfl rfl rfl func65 h
@[simp] theorem e68:EQ 68 [] f8q g0d [] [] []:=⟨rfl,fun _=>⟨rfl,rfl,rfl,rfl,rfl⟩⟩
theorem i3k:OB 68 f68:=fun n h=>A3 n rfl rfl rfl func68 h
@[simp] theorem e72:EQ 72 [] f8r g0e [] [13,17,19,23,26,28,46,48,50,54] [5,8,11]:=⟨rfl,fun _=>⟨rfl,rfl,rfl,rfl,rfl⟩⟩
theorem b2w:OB 72 f72:=fun n h=>A3 n rfl rfl rfl func72 h
@[simp] theorem e75:EQ 75 [] f8s g0f [] [18,22] [1,2,3]:=⟨rfl,fun _=>⟨rfl,rfl,rfl,rfl,rfl⟩⟩
theorem i3l:OB 75 f75:=fun n h=>A3 n rfl rfl rfl func75 h
@[simp] theorem e78:EQ 78 [] f8t g0g [] [] []:=⟨rfl,fun _=>⟨rfl,rfl,rfl,rfl,rfl⟩⟩
theorem f7r:OB 78 f78:=fun n h=>A3 n rfl rfl rfl func78 h
@[simp] theorem e82:EQ 82 [] f8u g0h [] [] []:=⟨rfl,fun _=>⟨rfl,rfl,rfl,rfl,rfl⟩⟩
theorem i3m:OB 82 f82:=fun n h=>A3 n rfl rfl rfl func82 h
@[simp] theorem e83:EQ 83 [] f8v g0i [] [] []:=⟨rfl,fun _=>⟨rfl,rfl,rfl,rfl,rfl⟩⟩
theorem i3n:OB 83 f83:=fun n h=>A3 n rfl rfl rfl func83 h
@[simp] theorem e85:EQ 85 [] f8w g0j [] [] []:=⟨rfl,fun _=>⟨rfl,rfl,rfl,rfl,rfl⟩⟩
theorem f7s:OB 85 f85:=fun n h=>A3 n rfl rfl rfl func85 h
@[simp] theorem e86:EQ 86 [.L,.P] f8x g0k [] [] []:=⟨rfl,fun _=>⟨rfl,rfl,rfl,rfl,rfl⟩⟩
theorem i3o:OB 86 f86:=fun n h=>A3 n rfl rfl rfl func86 h
@[simp] theorem e89:EQ 89 [] f8y g0l [] [] []:=⟨rfl,fun _=>⟨rfl,rfl,rfl,rfl,rfl⟩⟩
theorem i3p:OB 89 f89:=fun n h=>A3 n rfl rfl rfl func89 h
@[simp] theorem e92:EQ 92 [] f8z g0m [] [] []:=⟨rfl,fun _=>⟨rfl,rfl,rfl,rfl,rfl⟩⟩
theorem i3q:OB 92 f92:=fun n h=>A3 n rfl rfl rfl func92 h
@[simp] theorem e93:EQ 93 [] f9a g0n [] [] []:=⟨rfl,fun _=>⟨rfl,rfl,rfl,rfl,rfl⟩⟩
theorem b5t:OB 93 f93:=fun n h=>A3 n rfl rfl rfl func93 h
@[simp] theorem e94:EQ 94 [] f9b g0o [] [] [2]:=⟨rfl,fun _=>⟨rfl,rfl,rfl,rfl,rfl⟩⟩
theorem i3r:OB 94 f94:=fun n h=>A3 n rfl rfl rfl func94 h
@[simp] theorem e95:EQ 95 [] f9c g0p [] [] []:=⟨rfl,fun _=>⟨rfl,rfl,rfl,rfl,rfl⟩⟩
theorem i3s:OB 95 f95:=fun n h=>A3 n rfl rfl rfl func95 h
@[simp] theorem e97:EQ 97 [] f9d g0q [] [12,38] []:=⟨rfl,fun _=>⟨rfl,rfl,rfl,rfl,rfl⟩⟩
theorem i3t:OB 97 f97:=fun n h=>A3 n rfl rfl rfl func97 h
@[simp] theorem e98:EQ 98 [] f9e g0r [] [6,10,20] []:=⟨rfl,fun _=>⟨rfl,rfl,rfl,rfl,rfl⟩⟩
theorem i3u:OB 98 f98:=fun n h=>A3 n rfl rfl rfl func98 h
@[simp] theorem e99:EQ 99 [] f9f g0s [] [] []:=⟨rfl,fun _=>⟨rfl,rfl,rfl,rfl,rfl⟩⟩
theorem i3v:OB 99 f99:=fun n h=>A3 n rfl rfl rfl func99 h
@[simp] theorem i7t:EQ 101 [.V,.R,.R] c6i c6u c4p [] []:=⟨rfl,fun _=>⟨rfl,rfl,rfl,rfl,rfl⟩⟩
@[simp] theorem i7u:EQ 102 [] e4o f0b [] [] []:=⟨rfl,fun _=>⟨rfl,rfl,rfl,rfl,rfl⟩⟩
theorem h5v:OB 102 f102:=fun n h=>A3 n rfl rfl rfl func102 h
@[simp] theorem i7v:EQ 103 [.L,.P] e4p f0c [] [] []:=⟨rfl,fun _=>⟨rfl,rfl,rfl,rfl,rfl⟩⟩
theorem h5w:OB 103 f103:=fun n h=>A3 n rfl rfl rfl func103 h
@[simp] theorem i7w:EQ 104 [] e4q f0d [] [] []:=⟨rfl,fun _=>⟨rfl,rfl,rfl,rfl,rfl⟩⟩
theorem h5x:OB 104 f104:=fun n h=>A3 n rfl rfl rfl func104 h
@[simp] theorem i7x:EQ 105 [] e4r f0e [] [] []:=⟨rfl,fun _=>⟨rfl,rfl,rfl,rfl,rfl⟩⟩
theorem h5y:OB 105 f105:=fun n h=>A3 n rfl rfl rfl func105 h
@[simp] theorem i7y:EQ 106 [] e4s f0f [] [] []:=⟨rfl,fun _=>⟨rfl,rfl,rfl,rfl,rfl⟩⟩
theorem h5z:OB 106 f106:=fun n h=>A3 n rfl rfl rfl func106 h
@[simp] theorem i7z:EQ 107 [] e4t f0g [] [] []:=⟨rfl,fun _=>⟨rfl,rfl,rfl,rfl,rfl⟩⟩
theorem h6a:OB 107 f107:=fun n h=>A3 n rfl rfl rfl func107 h
@[simp] theorem i8a:EQ 108 [] e4u f0h [] [] [2]:=⟨rfl,fun _=>⟨rfl,rfl,rfl,rfl,rfl⟩⟩
theorem h6b:OB 108 f108:=fun n h=>A3 n rfl rfl rfl func108 h
@[simp] theorem i8b:EQ 109 [] e4v f0i [] [] []:=⟨rfl,fun _=>⟨rfl,rfl,rfl,rfl,rfl⟩⟩
theorem h6c:OB 109 f109:=fun n h=>A3 n rfl rfl rfl func109 h
@[simp] theorem i8c:EQ 110 [] e4w f0j d9l [7,14,32,35] [1,2,3]:=⟨rfl,fun _=>⟨rfl,rfl,rfl,rfl,rfl⟩⟩
theorem h6d:OB 110 f110:=fun n h=>A3 n rfl rfl rfl func110 h
@[simp] theorem i8d:EQ 111 [] e4x f0k [] [6,10,20] []:=⟨rfl,fun _=>⟨rfl,rfl,rfl,rfl,rfl⟩⟩
theorem h6e:OB 111 f111:=fun n h=>A3 n rfl rfl rfl func111 h
@[simp] theorem i8e:EQ 112 [] e4y f0l [] [6,10,20] []:=⟨rfl,fun _=>⟨rfl,rfl,rfl,rfl,rfl⟩⟩
theorem h6f:OB 112 f112:=fun n h=>A3 n rfl rfl rfl func112 h
@[simp] theorem i8f:EQ 113 [] e4z f0m d9m [] []:=⟨rfl,fun _=>⟨rfl,rfl,rfl,rfl,rfl⟩⟩
theorem h6g:OB 113 f113:=fun n h=>A3 n rfl rfl rfl func113 h
@[simp] theorem i8g:EQ 114 [] e5a f0n [] [] []:=⟨rfl,fun _=>⟨rfl,rfl,rfl,rfl,rfl⟩⟩
theorem h6h:OB 114 f114:=fun n h=>A3 n rfl rfl rfl func114 h
@[simp] theorem i8h:EQ 115 [] c6j c6v c4q [] []:=⟨rfl,fun _=>⟨rfl,rfl,rfl,rfl,rfl⟩⟩
theorem h6i:OB 115 f115:=fun n h=>A3 n rfl rfl rfl func115 h
@[simp] theorem i8i:EQ 116 [] e5b f0o d9n [8,14,25,28] [1,2,3,5]:=⟨rfl,fun _=>⟨rfl,rfl,rfl,rfl,rfl⟩⟩
theorem h6j:OB 116 f116:=fun n h=>A3 n rfl rfl rfl func116 h
@[simp] theorem i8j:EQ 117 [] e5c f0p [] [] []:=⟨rfl,fun _=>⟨rfl,rfl,rfl,rfl,rfl⟩⟩
theorem h6k:OB 117 f117:=fun n h=>A3 n rfl rfl rfl func117 h
@[simp] theorem i8k:EQ 118 [] e5d f0q [] [] []:=⟨rfl,fun _=>⟨rfl,rfl,rfl,rfl,rfl⟩⟩
theorem h6l:OB 118 f118:=fun n h=>A3 n rfl rfl rfl func118 h
@[simp] theorem i8l:EQ 119 [.L,.P] e5e f0r [] [] []:=⟨rfl,fun _=>⟨rfl,rfl,rfl,rfl,rfl⟩⟩
theorem h6m:OB 119 f119:=fun n h=>A3 n rfl rfl rfl func119 h
@[simp] theorem i8m:EQ 120 [.L,.P] e5f f0s [] [] []:=⟨rfl,fun _=>⟨rfl,rfl,rfl,rfl,rfl⟩⟩
theorem h6n:OB 120 f120:=fun n h=>A3 n rfl rfl rfl func120 h
@[simp] theorem i8n:EQ 121 [] e5g f0t [] [] []:=⟨rfl,fun _=>⟨rfl,rfl,rfl,rfl,rfl⟩⟩
theorem h6o:OB 121 f121:=fun n h=>A3 n rfl rfl rfl func121 h
@[simp] theorem i8o:EQ 122 [] e5h f0u [] [] []:=⟨rfl,fun _=>⟨rfl,rfl,rfl,rfl,rfl⟩⟩
theorem c6d:OB 122 f122:=fun n h=>A3 n rfl rfl rfl func122 h
@[simp] theorem i8p:EQ 123 [.R,.R,.V] e5i f0v [] [13,17] [5,6,7]:=⟨rfl,fun _=>⟨rfl,rfl,rfl,rfl,rfl⟩⟩
theorem e4a:OB 123 f123:=fun n h=>A3 n rfl rfl rfl func123 h
@[simp] theorem i8q:EQ 124 [] e5j f0w d9o [] []:=⟨rfl,fun _=>⟨rfl,rfl,rfl,rfl,rfl⟩⟩
theorem h6p:OB 124 f124:=fun n h=>A3 n rfl rfl rfl func124 h
@[simp] theorem i8r:EQ 125 [.R,.R,.V] e5k f0x [] [15] [3,5,6,7]:=⟨rfl,fun _=>⟨rfl,rfl,rfl,rfl,rfl⟩⟩
theorem e4b:OB 125 f125:=fun n h=>A3 n rfl rfl rfl func125 h
@[simp] theorem i8s:EQ 127 [] c6k c6w c4r [] []:=⟨rfl,fun _=>⟨rfl,rfl,rfl,rfl,rfl⟩⟩
theorem h6q:OB 127 f127:=fun n h=>A3 n rfl rfl rfl func127 h
@[simp] theorem i8t:EQ 128 [] e5l f0y [] [13,15,17,25,30,35,41] [5,8,32]:=⟨rfl,fun _=>⟨rfl,rfl,rfl,rfl,rfl⟩⟩
theorem c6e:OB 128 f128:=fun n h=>A3 n rfl rfl rfl func128 h
@[simp] theorem i8u:EQ 129 [] e5m f0z [] [] []:=⟨rfl,fun _=>⟨rfl,rfl,rfl,rfl,rfl⟩⟩
theorem h6r:OB 129 f129:=fun n h=>A3 n rfl rfl rfl func129 h
@[simp] theorem i8v:EQ 131 [] c6l c6x c4s [] []:=⟨rfl,fun _=>⟨rfl,rfl,rfl,rfl,rfl⟩⟩
theorem h6s:OB 131 f131:=fun n h=>A3 n rfl rfl rfl func131 h
@[simp] theorem i8w:EQ 133 [] e5n f1a [] [] []:=⟨rfl,fun _=>⟨rfl,rfl,rfl,rfl,rfl⟩⟩
theorem h6t:OB 133 f133:=fun n h=>A3 n rfl rfl rfl func133 h
@[simp] theorem i8x:EQ 134 [] e5o f1b [] [] []:=⟨rfl,fun _=>⟨rfl,rfl,rfl,rfl,rfl⟩⟩
theorem h6u:OB 134 f134:=fun n h=>A3 n rfl rfl rfl func134 h
@[simp] theorem i8y:EQ 135 [] e5p f1c [] [] []:=⟨rfl,fun _=>⟨rfl,rfl,rfl,rfl,rfl⟩⟩
theorem h6v:OB 135 f135:=fun n h=>A3 n rfl rfl rfl func135 h
@[simp] theorem i8z:EQ 148 [.R,.R] e5q f1d d9p [12,21,36,45] [3,4,5]:=⟨rfl,fun _=>⟨rfl,rfl,rfl,rfl,rfl⟩⟩
theorem e4c:OB 148 f148:=fun n h=>A3 n rfl rfl rfl func148 h
@[simp] theorem i9a:EQ 149 [] c6m c6y c4t [] []:=⟨rfl,fun _=>⟨rfl,rfl,rfl,rfl,rfl⟩⟩
@[simp] theorem i9b:EQ 150 [.R,.V] e5r f1e [] [13,15] [3,4]:=⟨rfl,fun _=>⟨rfl,rfl,rfl,rfl,rfl⟩⟩
theorem e4d:OB 150 f150:=fun n h=>A3 n rfl rfl rfl func150 h
@[simp] theorem i9c:EQ 151 [] e5s f1f [] [] []:=⟨rfl,fun _=>⟨rfl,rfl,rfl,rfl,rfl⟩⟩
theorem h6w:OB 151 f151:=fun n h=>A3 n rfl rfl rfl func151 h
@[simp] theorem i9d:EQ 153 [] e5t f1g d9q [] []:=⟨rfl,fun _=>⟨rfl,rfl,rfl,rfl,rfl⟩⟩
theorem h6x:OB 153 f153:=fun n h=>A3 n rfl rfl rfl func153 h
@[simp] theorem i9e:EQ 155 [] e5u f1h [] [] []:=⟨rfl,fun _=>⟨rfl,rfl,rfl,rfl,rfl⟩⟩
theorem h6y:OB 155 f155:=fun n h=>A3 n rfl rfl rfl func155 h
@[simp] theorem i9f:EQ 156 [] e5v f1i [] [] []:=⟨rfl,fun _=>⟨rfl,rfl,rfl,rfl,rfl⟩⟩
theorem h6z:OB 156 f156:=fun n h=>A3 n rfl rfl rfl func156 h
@[simp] theorem i9g:EQ 157 [] e5w f1j [] [] []:=⟨rfl,fun _=>⟨rfl,rfl,rfl,rfl,rfl⟩⟩
theorem e4e:OB 157 f157:=fun n h=>A3 n rfl rfl rfl func157 h
@[simp] theorem i9h:EQ 158 [] e5x f1k [] [] [2]:=⟨rfl,fun _=>⟨rfl,rfl,rfl,rfl,rfl⟩⟩
theorem h7a:OB 158 f158:=fun n h=>A3 n rfl rfl rfl func158 h
@[simp] theorem i9i:EQ 159 [] e5y f1l [] [] []:=⟨rfl,fun _=>⟨rfl,rfl,rfl,rfl,rfl⟩⟩
theorem e4f:OB 159 f159:=fun n h=>A3 n rfl rfl rfl func159 h
@[simp] theorem i9j:EQ 160 [] e5z f1m [] [] []:=⟨rfl,fun _=>⟨rfl,rfl,rfl,rfl,rfl⟩⟩
theorem h7b:OB 160 f160:=fun n h=>A3 n rfl rfl rfl func160 h
@[simp] theorem i9k:EQ 161 [.R,.N,.R] e6a f1n [] [] []:=⟨rfl,fun _=>⟨rfl,rfl,rfl,rfl,rfl⟩⟩
theorem a6n:OB 161 f161:=fun n h=>A3 n rfl rfl rfl func161 h
@[simp] theorem i9l:EQ 163 [] e6b f1o [] [] []:=⟨rfl,fun _=>⟨rfl,rfl,rfl,rfl,rfl⟩⟩
theorem h7c:OB 163 f163:=fun n h=>A3 n rfl rfl rfl func163 h
@[simp] theorem i9m:EQ 164 [] e6c f1p d9r [9,12,15] [1,2]:=⟨rfl,fun _=>⟨rfl,rfl,rfl,rfl,rfl⟩⟩
theorem h7d:OB 164 f164:=fun n h=>A3 n rfl rfl rfl func164 h
@[simp] theorem i9n:EQ 165 [.R,.N,.R] e6d f1q [] [] []:=⟨rfl,fun _=>⟨rfl,rfl,rfl,rfl,rfl⟩⟩
theorem b2n:OB 165 f165:=fun n h=>A3 n rfl rfl rfl func165 h
@[simp] theorem i9o:EQ 166 [] e6e f1r [] [6,10,20] []:=⟨rfl,fun _=>⟨rfl,rfl,rfl,rfl,rfl⟩⟩
theorem h7e:OB 166 f166:=fun n h=>A3 n rfl rfl rfl func166 h
@[simp] theorem i9p:EQ 167 [] e6f f1s d9s [] []:=⟨rfl,fun _=>⟨rfl,rfl,rfl,rfl,rfl⟩⟩
theorem e4g:OB 167 f167:=fun n h=>A3 n rfl rfl rfl func167 h
@[simp] theorem i9q:EQ 168 [] e6g f1t [] [] []:=⟨rfl,fun _=>⟨rfl,rfl,rfl,rfl,rfl⟩⟩
theorem h7f:OB 168 f168:=fun n h=>A3 n rfl rfl rfl func168 h
@[simp] theorem i9r:EQ 169 [] e6h f1u [] [] []:=⟨rfl,fun _=>⟨rfl,rfl,rfl,rfl,rfl⟩⟩
theorem h7g:OB 169 f169:=fun n h=>A3 n rfl rfl rfl func169 h
@[simp] theorem i9s:EQ 170 [] c6n c6z c4u [] []:=⟨rfl,fun _=>⟨rfl,rfl,rfl,rfl,rfl⟩⟩
@[simp] theorem i9t:EQ 171 [.M,.R] e6i f1v d9t [] []:=⟨rfl,fun _=>⟨rfl,rfl,rfl,rfl,rfl⟩⟩
theorem a7u:OB 171 f171:=fun n h=>A3 n rfl rfl rfl func171 h
@[simp] theorem i9u:EQ 173 [] e6j f1w [] [] []:=⟨rfl,fun _=>⟨rfl,rfl,rfl,rfl,rfl⟩⟩
theorem h7h:OB 173 f173:=fun n h=>A3 n rfl rfl rfl func173 h
@[simp] theorem i9v:EQ 174 [] e6k f1x [] [] []:=⟨rfl,fun _=>⟨rfl,rfl,rfl,rfl,rfl⟩⟩
theorem h7i:OB 174 f174:=fun n h=>A3 n rfl rfl rfl func174 h
@[simp] theorem i9w:EQ 175 [] e6l f1y [] [] []:=⟨rfl,fun _=>⟨rfl,rfl,rfl,rfl,rfl⟩⟩
theorem h7j:OB 175 f175:=fun n h=>A3 n rfl rfl rfl func175 h
@[simp] theorem i9x:EQ 176 [] e6m f1z [] [] [1,2,3]:=⟨rfl,fun _=>⟨rfl,rfl,rfl,rfl,rfl⟩⟩
theorem h7k:OB 176 f176:=fun n h=>A3 n rfl rfl rfl func176 h
@[simp] theorem i9y:EQ 177 [] e6n f2a [] [] []:=⟨rfl,fun _=>⟨rfl,rfl,rfl,rfl,rfl⟩⟩
theorem h7l:OB 177 f177:=fun n h=>A3 n rfl rfl rfl func177 h
@[simp] theorem i9z:EQ 178 [] e6o f2b [] [] []:=⟨rfl,fun _=>⟨rfl,rfl,rfl,rfl,rfl⟩⟩
theorem h7m:OB 178 f178:=fun n h=>A3 n rfl rfl rfl func178 h
@[simp] theorem j0a:EQ 179 [] e6p f2c [] [] []:=⟨rfl,fun _=>⟨rfl,rfl,rfl,rfl,rfl⟩⟩
theorem h7n:OB 179 f179:=fun n h=>A3 n rfl rfl rfl func179 h
@[simp] theorem j0b:EQ 180 [] e6q f2d [] [] []:=⟨rfl,fun _=>⟨rfl,rfl,rfl,rfl,rfl⟩⟩
theorem h7o:OB 180 f180:=fun n h=>A3 n rfl rfl rfl func180 h
@[simp] theorem j0c:EQ 181 [] e6r f2e [] [] []:=⟨rfl,fun _=>⟨rfl,rfl,rfl,rfl,rfl⟩⟩
theorem e4h:OB 181 f181:=fun n h=>A3 n rfl rfl rfl func181 h
@[simp] theorem j0d:EQ 182 [] e6s f2f [] [8,18,21] []:=⟨rfl,fun _=>⟨rfl,rfl,rfl,rfl,rfl⟩⟩
theorem h7p:OB 182 f182:=fun n h=>A3 n rfl rfl rfl func182 h
@[simp] theorem j0e:EQ 183 [] e6t f2g [] [6] [1,2,3]:=⟨rfl,fun _=>⟨rfl,rfl,rfl,rfl,rfl⟩⟩
theorem h7q:OB 183 f183:=fun n h=>A3 n rfl rfl rfl func183 h
@[simp] theorem j0f:EQ 184 [] e6u f2h [] [9] [1,2,3]:=⟨rfl,fun _=>⟨rfl,rfl,rfl,rfl,rfl⟩⟩
theorem h7r:OB 184 f184:=fun n h=>A3 n rfl rfl rfl func184 h
@[simp] theorem j0g:EQ 185 [] e6v f2i [] [] []:=⟨rfl,fun _=>⟨rfl,rfl,rfl,rfl,rfl⟩⟩
theorem e4i:OB 185 f185:=fun n h=>A3 n rfl rfl rfl func185 h
@[simp] theorem j0h:EQ 186 [] e6w f2j d9u [] []:=⟨rfl,fun _=>⟨rfl,rfl,rfl,rfl,rfl⟩⟩
theorem h7s:OB 186 f186:=fun n h=>A3 n rfl rfl rfl func186 h
@[simp] theorem j0i:EQ 187 [] e6x f2k [] [8,16,19] [5]:=⟨rfl,fun _=>⟨rfl,rfl,rfl,rfl,rfl⟩⟩
theorem h7t:OB 187 f187:=fun n h=>A3 n rfl rfl rfl func187 h
@[simp] theorem j0j:EQ 188 [] e6y f2l d9v [5,8,11] [1,2]:=⟨rfl,fun _=>⟨rfl,rfl,rfl,rfl,rfl⟩⟩
theorem h7u:OB 188 f188:=fun n h=>A3 n rfl rfl rfl func188 h
@[simp] theorem j0k:EQ 189 [] e6z f2m [] [] []:=⟨rfl,fun _=>⟨rfl,rfl,rfl,rfl,rfl⟩⟩
theorem h7v:OB 189 f189:=fun n h=>A3 n rfl rfl rfl func189 h
@[simp] theorem j0l:EQ 190 [] e7a f2n [] [] []:=⟨rfl,fun _=>⟨rfl,rfl,rfl,rfl,rfl⟩⟩
theorem h7w:OB 190 f190:=fun n h=>A3 n rfl rfl rfl func190 h
@[simp] theorem j0m:EQ 191 [] e7b f2o [] [] []:=⟨rfl,fun _=>⟨rfl,rfl,rfl,rfl,rfl⟩⟩
theorem h7x:OB 191 f191:=fun n h=>A3 n rfl rfl rfl func191 h
@[simp] theorem j0n:EQ 192 [] e7c f2p [] [] []:=⟨rfl,fun _=>⟨rfl,rfl,rfl,rfl,rfl⟩⟩
theorem h7y:OB 192 f192:=fun n h=>A3 n rfl rfl rfl func192 h
@[simp] theorem j0o:EQ 193 [.M,.R] e7d f2q [] [] []:=⟨rfl,fun _=>⟨rfl,rfl,rfl,rfl,rfl⟩⟩
theorem b2o:OB 193 f193:=fun n h=>A3 n rfl rfl rfl func193 h
@[simp] theorem j0p:EQ 194 [] c6o c7a c4v [] []:=⟨rfl,fun _=>⟨rfl,rfl,rfl,rfl,rfl⟩⟩
theorem h7z:OB 194 f194:=fun n h=>A3 n rfl rfl rfl func194 h
@[simp] theorem j0q:EQ 196 [] e7e f2r [] [] []:=⟨rfl,fun _=>⟨rfl,rfl,rfl,rfl,rfl⟩⟩
theorem h8a:OB 196 f196:=fun n h=>A3 n rfl rfl rfl func196 h
@[simp] theorem j0r:EQ 197 [.R,.N,.R] e7f f2s [] [] []:=⟨rfl,fun _=>⟨rfl,rfl,rfl,rfl,rfl⟩⟩
theorem h8b:OB 197 f197:=fun n h=>A3 n rfl rfl rfl func197 h
@[simp] theorem j0s:EQ 199 [] e7g f2t [] [] []:=⟨rfl,fun _=>⟨rfl,rfl,rfl,rfl,rfl⟩⟩
theorem h8c:OB 199 f199:=fun n h=>A3 n rfl rfl rfl func199 h
@[simp] theorem j0t:EQ 200 [.M,.R] e7h f2u [] [] []:=⟨rfl,fun _=>⟨rfl,rfl,rfl,rfl,rfl⟩⟩
theorem h8d:OB 200 f200:=fun n h=>A3 n rfl rfl rfl func200 h
@[simp] theorem j0u:EQ 201 [] e7i f2v [] [] []:=⟨rfl,fun _=>⟨rfl,rfl,rfl,rfl,rfl⟩⟩
theorem h8e:OB 201 f201:=fun n h=>A3 n rfl rfl rfl func201 h
@[simp] theorem j0v:EQ 202 [] c6p c7b c4w [] []:=⟨rfl,fun _=>⟨rfl,rfl,rfl,rfl,rfl⟩⟩
theorem h8f:OB 202 f202:=fun n h=>A3 n rfl rfl rfl func202 h
@[simp] theorem j0w:EQ 203 [] e7j f2w [] [] []:=⟨rfl,fun _=>⟨rfl,rfl,rfl,rfl,rfl⟩⟩
theorem h8g:OB 203 f203:=fun n h=>A3 n rfl rfl rfl func203 h
@[simp] theorem j0x:EQ 204 [] e7k f2x d9w [] []:=⟨rfl,fun _=>⟨rfl,rfl,rfl,rfl,rfl⟩⟩
theorem h8h:OB 204 f204:=fun n h=>A3 n rfl rfl rfl func204 h
@[simp] theorem j0y:EQ 217 [.V,.R] c6q c7c c4x [] []:=⟨rfl,fun _=>⟨rfl,rfl,rfl,rfl,rfl⟩⟩
@[simp] theorem j0z:EQ 218 [] c6r c7d c4y [] []:=⟨rfl,fun _=>⟨rfl,rfl,rfl,rfl,rfl⟩⟩
theorem h8i:OB 218 f218:=fun n h=>A3 n rfl rfl rfl func218 h
@[simp] theorem j1a:EQ 222 [] e7l f2y [] [] []:=⟨rfl,fun _=>⟨rfl,rfl,rfl,rfl,rfl⟩⟩
theorem h8j:OB 222 f222:=fun n h=>A3 n rfl rfl rfl func222 h
@[simp] theorem j1b:EQ 223 [] e7m f2z d9x [] []:=⟨rfl,fun _=>⟨rfl,rfl,rfl,rfl,rfl⟩⟩
theorem h8k:OB 223 f223:=fun n h=>A3 n rfl rfl rfl func223 h
@[simp] theorem j1c:EQ 224 [] e7n f3a [] [] []:=⟨rfl,fun _=>⟨rfl,rfl,rfl,rfl,rfl⟩⟩
theorem h8l:OB 224 f224:=fun n h=>A3 n rfl rfl rfl func224 h
@[simp] theorem j1d:EQ 225 [] e7o f3b [] [] []:=⟨rfl,fun _=>⟨rfl,rfl,rfl,rfl,rfl⟩⟩
theorem h8m:OB 225 f225:=fun n h=>A3 n rfl rfl rfl func225 h
@[simp] theorem j1e:EQ 226 [.N,.R] e7p f3c [] [] []:=⟨rfl,fun _=>⟨rfl,rfl,rfl,rfl,rfl⟩⟩
theorem h8n:OB 226 f226:=fun n h=>A3 n rfl rfl rfl func226 h
@[simp] theorem j1f:EQ 227 [] e7q f3d [] [] []:=⟨rfl,fun _=>⟨rfl,rfl,rfl,rfl,rfl⟩⟩
theorem h8o:OB 227 f227:=fun n h=>A3 n rfl rfl rfl func227 h
@[simp] theorem j1g:EQ 228 [] e7r f3e [] [] []:=⟨rfl,fun _=>⟨rfl,rfl,rfl,rfl,rfl⟩⟩
theorem h8p:OB 228 f228:=fun n h=>A3 n rfl rfl rfl func228 h
@[simp] theorem j1h:EQ 229 [] e7s f3f [] [] []:=⟨rfl,fun _=>⟨rfl,rfl,rfl,rfl,rfl⟩⟩
theorem h8q:OB 229 f229:=fun n h=>A3 n rfl rfl rfl func229 h
@[simp] theorem j1i:EQ 230 [] e7t f3g [] [] []:=⟨rfl,fun _=>⟨rfl,rfl,rfl,rfl,rfl⟩⟩
theorem h8r:OB 230 f230:=fun n h=>A3 n rfl rfl rfl func230 h
@[simp] theorem j1j:EQ 231 [] e7u f3h [] [] [1,2,3]:=⟨rfl,fun _=>⟨rfl,rfl,rfl,rfl,rfl⟩⟩
theorem h8s:OB 231 f231:=fun n h=>A3 n rfl rfl rfl func231 h
@[simp] theorem j1k:EQ 232 [.R,.M] e7v f3i d9y [] []:=⟨rfl,fun _=>⟨rfl,rfl,rfl,rfl,rfl⟩⟩
theorem h8t:OB 232 f232:=fun n h=>A3 n rfl rfl rfl func232 h
@[simp] theorem j1l:EQ 233 [] e7w f3j [] [] []:=⟨rfl,fun _=>⟨rfl,rfl,rfl,rfl,rfl⟩⟩
theorem h8u:OB 233 f233:=fun n h=>A3 n rfl rfl rfl func233 h
@[simp] theorem j1m:EQ 234 [] e7x f3k d9z [] []:=⟨rfl,fun _=>⟨rfl,rfl,rfl,rfl,rfl⟩⟩
theorem h8v:OB 234 f234:=fun n h=>A3 n rfl rfl rfl func234 h
@[simp] theorem j1n:EQ 235 [] e7y f3l [] [] []:=⟨rfl,fun _=>⟨rfl,rfl,rfl,rfl,rfl⟩⟩
theorem c6f:OB 235 f235:=fun n h=>A3 n rfl rfl rfl func235 h
@[simp] theorem j1o:EQ 236 [] e7z f3m [] [] []:=⟨rfl,fun _=>⟨rfl,rfl,rfl,rfl,rfl⟩⟩
theorem h8w:OB 236 f236:=fun n h=>A3 n rfl rfl rfl func236 h
@[simp] theorem j1p:EQ 237 [.M,.R] e8a f3n [] [] []:=⟨rfl,fun _=>⟨rfl,rfl,rfl,rfl,rfl⟩⟩
theorem h8x:OB 237 f237:=fun n h=>A3 n rfl rfl rfl func237 h
@[simp] theorem j1q:EQ 238 [] e8b f3o [] [] []:=⟨rfl,fun _=>⟨rfl,rfl,rfl,rfl,rfl⟩⟩
theorem h8y:OB 238 f238:=fun n h=>A3 n rfl rfl rfl func238 h
@[simp] theorem j1r:EQ 239 [.M,.R] e8c f3p e0a [] []:=⟨rfl,fun _=>⟨rfl,rfl,rfl,rfl,rfl⟩⟩
theorem h8z:OB 239 f239:=fun n h=>A3 n rfl rfl rfl func239 h
@[simp] theorem j1s:EQ 240 [] e8d f3q [] [] []:=⟨rfl,fun _=>⟨rfl,rfl,rfl,rfl,rfl⟩⟩
theorem h9a:OB 240 f240:=fun n h=>A3 n rfl rfl rfl func240 h
@[simp] theorem j1t:EQ 241 [] e8e f3r [] [] []:=⟨rfl,fun _=>⟨rfl,rfl,rfl,rfl,rfl⟩⟩
theorem h9b:OB 241 f241:=fun n h=>A3 n rfl rfl rfl func241 h
@[simp] theorem j1u:EQ 242 [] e8f f3s [] [9,20,25,30] [5]:=⟨rfl,fun _=>⟨rfl,rfl,rfl,rfl,rfl⟩⟩
theorem h9c:OB 242 f242:=fun n h=>A3 n rfl rfl rfl func242 h
@[simp] theorem j1v:EQ 243 [] e8g f3t [] [12,16,20] [1,2,3]:=⟨rfl,fun _=>⟨rfl,rfl,rfl,rfl,rfl⟩⟩
theorem h9d:OB 243 f243:=fun n h=>A3 n rfl rfl rfl func243 h
@[simp] theorem j1w:EQ 244 [] e8h f3u [] [] []:=⟨rfl,fun _=>⟨rfl,rfl,rfl,rfl,rfl⟩⟩
theorem h9e:OB 244 f244:=fun n h=>A3 n rfl rfl rfl func244 h
@[simp] theorem j1x:EQ 245 [] e8i f3v [] [] []:=⟨rfl,fun _=>⟨rfl,rfl,rfl,rfl,rfl⟩⟩
theorem h9f:OB 245 f245:=fun n h=>A3 n rfl rfl rfl func245 h
@[simp] theorem j1y:EQ 246 [] e8j f3w e0b [8,15,18,24] [5]:=⟨rfl,fun _=>⟨rfl,rfl,rfl,rfl,rfl⟩⟩
theorem h9g:OB 246 f246:=fun n h=>A3 n rfl rfl rfl func246 h
@[simp] theorem j1z:EQ 247 [] e8k f3x e0c [] []:=⟨rfl,fun _=>⟨rfl,rfl,rfl,rfl,rfl⟩⟩
theorem h9h:OB 247 f247:=fun n h=>A3 n rfl rfl rfl func247 h
@[simp] theorem j2a:EQ 248 [] e8l f3y [] [] []:=⟨rfl,fun _=>⟨rfl,rfl,rfl,rfl,rfl⟩⟩
theorem h9i:OB 248 f248:=fun n h=>A3 n rfl rfl rfl func248 h
@[simp] theorem j2b:EQ 249 [] e8m f3z [] [] []:=⟨rfl,fun _=>⟨rfl,rfl,rfl,rfl,rfl⟩⟩
theorem h9j:OB 249 f249:=fun n h=>A3 n rfl rfl rfl func249 h
@[simp] theorem j2c:EQ 250 [] e8n f4a [] [] []:=⟨rfl,fun _=>⟨rfl,rfl,rfl,rfl,rfl⟩⟩
theorem h9k:OB 250 f250:=fun n h=>A3 n rfl rfl rfl func250 h
@[simp] theorem j2d:EQ 251 [] e8o f4b [] [] []:=⟨rfl,fun _=>⟨rfl,rfl,rfl,rfl,rfl⟩⟩
theorem h9l:OB 251 f251:=fun n h=>A3 n rfl rfl rfl func251 h
@[simp] theorem j2e:EQ 252 [] e8p f4c [] [] []:=⟨rfl,fun _=>⟨rfl,rfl,rfl,rfl,rfl⟩⟩
theorem h9m:OB 252 f252:=fun n h=>A3 n rfl rfl rfl func252 h
@[simp] theorem j2f:EQ 253 [] e8q f4d [] [] []:=⟨rfl,fun _=>⟨rfl,rfl,rfl,rfl,rfl⟩⟩
theorem h9n:OB 253 f253:=fun n h=>A3 n rfl rfl rfl func253 h
@[simp] theorem j2g:EQ 260 [] c6s c7e c4z [] []:=⟨rfl,fun _=>⟨rfl,rfl,rfl,rfl,rfl⟩⟩
theorem h9o:OB 260 f260:=fun n h=>A3 n rfl rfl rfl func260 h
@[simp] theorem j2h:EQ 262 [] e8r f4e [] [] []:=⟨rfl,fun _=>⟨rfl,rfl,rfl,rfl,rfl⟩⟩
theorem h9p:OB 262 f262:=fun n h=>A3 n rfl rfl rfl func262 h
@[simp] theorem j2i:EQ 263 [] e8s f4f [] [] []:=⟨rfl,fun _=>⟨rfl,rfl,rfl,rfl,rfl⟩⟩
theorem h9q:OB 263 f263:=fun n h=>A3 n rfl rfl rfl func263 h
@[simp] theorem j2j:EQ 264 [] e8t f4g [] [] []:=⟨rfl,fun _=>⟨rfl,rfl,rfl,rfl,rfl⟩⟩
theorem h9r:OB 264 f264:=fun n h=>A3 n rfl rfl rfl func264 h
@[simp] theorem j2k:EQ 265 [] e8u f4h [] [] []:=⟨rfl,fun _=>⟨rfl,rfl,rfl,rfl,rfl⟩⟩
theorem h9s:OB 265 f265:=fun n h=>A3 n rfl rfl rfl func265 h
@[simp] theorem j2l:EQ 266 [] e8v f4i [] [] []:=⟨rfl,fun _=>⟨rfl,rfl,rfl,rfl,rfl⟩⟩
theorem h9t:OB 266 f266:=fun n h=>A3 n rfl rfl rfl func266 h
@[simp] theorem j2m:EQ 267 [] e8w f4j [] [] []:=⟨rfl,fun _=>⟨rfl,rfl,rfl,rfl,rfl⟩⟩
theorem c6g:OB 267 f267:=fun n h=>A3 n rfl rfl rfl func267 h
@[simp] theorem j2n:EQ 268 [] e8x f4k [] [] []:=⟨rfl,fun _=>⟨rfl,rfl,rfl,rfl,rfl⟩⟩
theorem h9u:OB 268 f268:=fun n h=>A3 n rfl rfl rfl func268 h
@[simp] theorem j2o:EQ 269 [] e8y f4l [] [] []:=⟨rfl,fun _=>⟨rfl,rfl,rfl,rfl,rfl⟩⟩
theorem h9v:OB 269 f269:=fun n h=>A3 n rfl rfl rfl func269 h
@[simp] theorem j2p:EQ 270 [] e8z f4m [] [] []:=⟨rfl,fun _=>⟨rfl,rfl,rfl,rfl,rfl⟩⟩
theorem h9w:OB 270 f270:=fun n h=>A3 n rfl rfl rfl func270 h
@[simp] theorem j2q:EQ 271 [] e9a f4n [] [] []:=⟨rfl,fun _=>⟨rfl,rfl,rfl,rfl,rfl⟩⟩
theorem h9x:OB 271 f271:=fun n h=>A3 n rfl rfl rfl func271 h
@[simp] theorem j2r:EQ 272 [] e9b f4o [] [] []:=⟨rfl,fun _=>⟨rfl,rfl,rfl,rfl,rfl⟩⟩
theorem h9y:OB 272 f272:=fun n h=>A3 n rfl rfl rfl func272 h
@[simp] theorem j2s:EQ 273 [.M,.R] e9c f4p e0d [] []:=⟨rfl,fun _=>⟨rfl,rfl,rfl,rfl,rfl⟩⟩
theorem h9z:OB 273 f273:=fun n h=>A3 n rfl rfl rfl func273 h
@[simp] theorem j2t:EQ 274 [.M] e9d f4q [] [] []:=⟨rfl,fun _=>⟨rfl,rfl,rfl,rfl,rfl⟩⟩
theorem i0a:OB 274 f274:=fun n h=>A3 n rfl rfl rfl func274 h
@[simp] theorem j2u:EQ 275 [] e9e f4r [] [] []:=⟨rfl,fun _=>⟨rfl,rfl,rfl,rfl,rfl⟩⟩
theorem i0b:OB 275 f275:=fun n h=>A3 n rfl rfl rfl func275 h
@[simp] theorem j2v:EQ 276 [] e9f f4s [] [] []:=⟨rfl,fun _=>⟨rfl,rfl,rfl,rfl,rfl⟩⟩
theorem e4j:OB 276 f276:=fun n h=>A3 n rfl rfl rfl func276 h
@[simp] theorem j2w:EQ 277 [] e9g f4t [] [] []:=⟨rfl,fun _=>⟨rfl,rfl,rfl,rfl,rfl⟩⟩
theorem i0c:OB 277 f277:=fun n h=>A3 n rfl rfl rfl func277 h
@[simp] theorem j2x:EQ 278 [] e9h f4u [] [] []:=⟨rfl,fun _=>⟨rfl,rfl,rfl,rfl,rfl⟩⟩
theorem i0d:OB 278 f278:=fun n h=>A3 n rfl rfl rfl func278 h
@[simp] theorem j2y:EQ 279 [] e9i f4v [] [] []:=⟨rfl,fun _=>⟨rfl,rfl,rfl,rfl,rfl⟩⟩
theorem e4k:OB 279 f279:=fun n h=>A3 n rfl rfl rfl func279 h
@[simp] theorem j2z:EQ 280 [] e9j f4w [] [] []:=⟨rfl,fun _=>⟨rfl,rfl,rfl,rfl,rfl⟩⟩
theorem c6h:OB 280 f280:=fun n h=>A3 n rfl rfl rfl func280 h
@[simp] theorem j3a:EQ 281 [] e9k f4x [] [] []:=⟨rfl,fun _=>⟨rfl,rfl,rfl,rfl,rfl⟩⟩
theorem i0e:OB 281 f281:=fun n h=>A3 n rfl rfl rfl func281 h
@[simp] theorem j3b:EQ 282 [] e9l f4y [] [] []:=⟨rfl,fun _=>⟨rfl,rfl,rfl,rfl,rfl⟩⟩
theorem i0f:OB 282 f282:=fun n h=>A3 n rfl rfl rfl func282 h
@[simp] theorem j3c:EQ 283 [] e9m f4z [] [] []:=⟨rfl,fun _=>⟨rfl,rfl,rfl,rfl,rfl⟩⟩
theorem i0g:OB 283 f283:=fun n h=>A3 n rfl rfl rfl func283 h
@[simp] theorem j3d:EQ 284 [] e9n f5a e0e [] []:=⟨rfl,fun _=>⟨rfl,rfl,rfl,rfl,rfl⟩⟩
theorem i0h:OB 284 f284:=fun n h=>A3 n rfl rfl rfl func284 h
@[simp] theorem j3e:EQ 285 [] c6t c7f c5a [] []:=⟨rfl,fun _=>⟨rfl,rfl,rfl,rfl,rfl⟩⟩
@[simp] theorem j3f:EQ 286 [] e9o f5b [] [] []:=⟨rfl,fun _=>⟨rfl,rfl,rfl,rfl,rfl⟩⟩
theorem i0i:OB 286 f286:=fun n h=>A3 n rfl rfl rfl func286 h
@[simp] theorem j3g:EQ 287 [] e9p f5c [] [] []:=⟨rfl,fun _=>⟨rfl,rfl,rfl,rfl,rfl⟩⟩
theorem i0j:OB 287 f287:=fun n h=>A3 n rfl rfl rfl func287 h
@[simp] theorem j3h:EQ 288 [] e9q f5d [] [] []:=⟨rfl,fun _=>⟨rfl,rfl,rfl,rfl,rfl⟩⟩
theorem i0k:OB 288 f288:=fun n h=>A3 n rfl rfl rfl func288 h
@[simp] theorem j3i:EQ 294 [] e9r f5e [] [] []:=⟨rfl,fun _=>⟨rfl,rfl,rfl,rfl,rfl⟩⟩
theorem i0l:OB 294 f294:=fun n h=>A3 n rfl rfl rfl func294 h
@[simp] theorem j3j:EQ 295 [.R,.R,.V] e9s f5f [] [24,38] []:=⟨rfl,fun _=>⟨rfl,rfl,rfl,rfl,rfl⟩⟩
theorem i0m:OB 295 f295:=fun n h=>A3 n rfl rfl rfl func295 h
@[simp] theorem j3k:EQ 296 [] e9t f5g [] [] []:=⟨rfl,fun _=>⟨rfl,rfl,rfl,rfl,rfl⟩⟩
theorem i0n:OB 296 f296:=fun n h=>A3 n rfl rfl rfl func296 h
@[simp] theorem j3l:EQ 297 [] e9u f5h [] [] []:=⟨rfl,fun _=>⟨rfl,rfl,rfl,rfl,rfl⟩⟩
theorem i0o:OB 297 f297:=fun n h=>A3 n rfl rfl rfl func297 h
@[simp] theorem j3m:EQ 298 [] e9v f5i [] [] []:=⟨rfl,fun _=>⟨rfl,rfl,rfl,rfl,rfl⟩⟩
theorem i0p:OB 298 f298:=fun n h=>A3 n rfl rfl rfl func298 h
@[simp] theorem j3n:EQ 299 [] e9w f5j [] [] []:=⟨rfl,fun _=>⟨rfl,rfl,rfl,rfl,rfl⟩⟩
theorem i0q:OB 299 f299:=fun n h=>A3 n rfl rfl rfl func299 h
@[simp] theorem j3o:EQ 300 [] e9x f5k e0f [] []:=⟨rfl,fun _=>⟨rfl,rfl,rfl,rfl,rfl⟩⟩
theorem i0r:OB 300 f300:=fun n h=>A3 n rfl rfl rfl func300 h
@[simp] theorem j3p:EQ 301 [] e9y f5l [] [] []:=⟨rfl,fun _=>⟨rfl,rfl,rfl,rfl,rfl⟩⟩
theorem i0s:OB 301 f301:=fun n h=>A3 n rfl rfl rfl func301 h
@[simp] theorem j3q:EQ 302 [] e9z f5m [] [] []:=⟨rfl,fun _=>⟨rfl,rfl,rfl,rfl,rfl⟩⟩
theorem i0t:OB 302 f302:=fun n h=>A3 n rfl rfl rfl func302 h
@[simp] theorem j3r:EQ 306 [] f0a f5n [] [] []:=⟨rfl,fun _=>⟨rfl,rfl,rfl,rfl,rfl⟩⟩
theorem i0u:OB 306 f306:=fun n h=>A3 n rfl rfl rfl func306 h
end Go.TM.Ft
