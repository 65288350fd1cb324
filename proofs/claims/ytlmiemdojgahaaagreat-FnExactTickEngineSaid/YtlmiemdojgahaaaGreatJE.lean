/- The tables that the machine is told. -/
import Derived.Test.YtlmiemdojgahaaaGreatJE0
set_option linter.unusedSimpArgs false
set_option linter.unusedVariables false
namespace Go.TM.Ft
open Go Go.TM Go.Proofs Go.Proofs.Tryz
set_option maxRecDepth 100000
attribute [local congr] K9
attribute [local simp] f1f d9n d2j d5b d9o d5c d5d d5e d0q c9l d5f d2k d2l d0r d9p d5g d5h d0s d9q d5i d2m d9r d5j d9s d5k c9m d5l d2n d5m d2o f1g a2s a3f a1l a3b U2 G3 A9 Rd.of Rd.bind Rd.run Rd.touched St.val lk up a5r a0m St.apply setsOk setsApart a2e newOk setCells C9 strike a6l c6u only a3y M0 reX re1 re0 a2y b2g finish b0q a9e b4u a9d b0p a7r a3r b2j clean P1 H7 a5t a6e lends a4h a7x reP b4s a3j nxt b5b b4g b1z a0x a3p a7d b2h b0z c3p a5f far isN a6k a5e b0n b1c b2y a1v a9k a5s a4r a3w a2d a8q a7c a0o L9 O5 L6 Eff.with f5n d9h d4t f4p b4z f0z f1a f4n f4o a8v b4o b8j b8k d4u f5o f5p d9i f1b d9j f1c f5q f5r f5s d0p c9k d4v f4q f5t f5u f1d f1e d9k d4w d9l d4x d4y d4z d9m d5a content a6j a5b a9j a5m a7q b8p a0e a0f a5c a7i a9c b2r a7h U5 descend J3 P4 viewFrom b7n b0w a4g a1b bare D4 a5g b5e a2a b2s b2t stamp a9v a9w a1q b2i a2b b0j b0i Root.at_ newOk B3 a7t a1w a7y a9l b4t without args b3z U1 oneVal b0o b2u b2q D2 C3 T.cells
attribute [local simp] J8 K0 J0 J9 H3 J6 H4 G4 H5 G1
def a7m (e:TypeId) (args:List Arg):Option Res:=
 match args with
 | [⟨.sl e' es,none⟩]=>if e'=e∧es.all (·.all a2a)=true∧es.length≤B9 then some ⟨.own e es,[],H7 es⟩ else none
 | _=>none
theorem a7z:E0.P=Tryz.prog:=rfl
theorem g0t (a:Option Addr) (c:Nat) (x y:Operand):D5 Tryz.prog (do eqGuard .eql 60 x y (.slice a 0 c) (.slice none 0 0); binOp .eql 60 (.slice a 0 c) (.slice none 0 0))=some (.bool a.isNone):=by
 cases a <;> kernel_rfl
theorem g6r (x:List T) (r:List (List T)) (h1:(x::r).all (·.all a2a)=true) (h2:(x::r).length≤B9):
  orc E0 (149:Nat) [⟨.sl 150 (x::r),none⟩]=some ⟨.own 150 (x::r),[],H7 (x::r)⟩:=by
 have h3:r.length+1≤B9:=by simpa using h2
 refine d6f 1 ?_
 simp only [List.all_cons,Bool.and_eq_true] at h1
 simp (maxSteps:=1000000) +contextual -dsimp [f149,h1.1,h1.2,h3,List.set,a7z]
theorem g6s (a:Option Addr) (c:Nat):orc E0 (149:Nat) [⟨.v (.slice a 0 c),none⟩]=some ⟨.own 150 [],[],true⟩:=by
 have g:=g0t a c
 refine d6f 1 ?_
 cases a
 ·simp (maxSteps:=1000000) +contextual -dsimp [f149,g,List.set,a7z]
 ·simp (maxSteps:=1000000) +contextual -dsimp [f149,g,List.set,a7z]
theorem g0u (a:Option Addr) (c:Nat) (x y:Operand):D5 Tryz.prog (do eqGuard .eql 23 x y (.slice a 0 c) (.slice none 0 0); binOp .eql 23 (.slice a 0 c) (.slice none 0 0))=some (.bool a.isNone):=by
 cases a <;> kernel_rfl
theorem g6t (x:List T) (r:List (List T)) (h1:(x::r).all (·.all a2a)=true) (h2:(x::r).length≤B9):
  orc E0 (170:Nat) [⟨.sl 2 (x::r),none⟩]=some ⟨.own 2 (x::r),[],H7 (x::r)⟩:=by
 have h3:r.length+1≤B9:=by simpa using h2
 refine d6g 1 ?_
 simp only [List.all_cons,Bool.and_eq_true] at h1
 simp (maxSteps:=1000000) +contextual -dsimp [f170,h1.1,h1.2,h3,List.set,a7z]
theorem g6u (a:Option Addr) (c:Nat):orc E0 (170:Nat) [⟨.v (.slice a 0 c),none⟩]=some ⟨.own 2 [],[],true⟩:=by
 have g:=g0u a c
 refine d6g 1 ?_
 cases a
 ·simp (maxSteps:=1000000) +contextual -dsimp [f170,g,List.set,a7z]
 ·simp (maxSteps:=1000000) +contextual -dsimp [f170,g,List.set,a7z]
theorem g0v (a:Option Addr) (c:Nat) (x y:Operand):D5 Tryz.prog (do eqGuard .eql 122 x y (.slice a 0 c) (.slice none 0 0); binOp .eql 122 (.slice a 0 c) (.slice none 0 0))=some (.bool a.isNone):=by
 cases a <;> kernel_rfl
theorem g6v (x:List T) (r:List (List T)) (h1:(x::r).all (·.all a2a)=true) (h2:(x::r).length≤B9):
  orc E0 (285:Nat) [⟨.sl 219 (x::r),none⟩]=some ⟨.own 219 (x::r),[],H7 (x::r)⟩:=by
 have h3:r.length+1≤B9:=by simpa using h2
 refine d6h 1 ?_
 simp only [List.all_cons,Bool.and_eq_true] at h1
 simp (maxSteps:=1000000) +contextual -dsimp [f285,h1.1,h1.2,h3,List.set,a7z]
theorem g6w (a:Option Addr) (c:Nat):orc E0 (285:Nat) [⟨.v (.slice a 0 c),none⟩]=some ⟨.own 219 [],[],true⟩:=by
 have g:=g0v a c
 refine d6h 1 ?_
 cases a
 ·simp (maxSteps:=1000000) +contextual -dsimp [f285,g,List.set,a7z]
 ·simp (maxSteps:=1000000) +contextual -dsimp [f285,g,List.set,a7z]
theorem f9g {sz:TypeId→Nat} {z:Zn} {args args':List Arg} {us:List Value} {r:Res} {u:Value} {w':World} (hr:r.outs=[]) (hb:Back sz z args us r u w'):Back sz z args' us r u w':=by
 obtain ⟨h1,⟨f,fo,b1,b2,b3,b4⟩,h3⟩:=hb
 rw [hr] at b2
 exact ⟨h1,⟨f,fo,b1,by rw [hr]; exact b2,b3,b4⟩,h3⟩
theorem c2s {k:Nat} {e:TypeId} (hm:lends (E0.mode k)=false) (h1:∀ x r,(x::r).all (·.all a2a)=true→(x::r).length≤B9→orc E0 k [⟨.sl e (x::r),none⟩]=some ⟨.own e (x::r),[],H7 (x::r)⟩)
  (h2:∀ a c,orc E0 k [⟨.v (.slice a 0 c),none⟩]=some ⟨.own e [],[],true⟩):∀ args r,a7m e args=some r→Sound E0 k args r∧Enters E0 k:=by
 intro args r h
 unfold a7m at h
 split at h
 ·rename_i e' es
  split at h
  ·rename_i hc
   obtain ⟨rfl,hc1,hc2⟩:=hc
   simp only [Option.some.injEq] at h
   subst h
   cases es with
   | cons x r=>exact b6t a9h (h1 x r hc1 hc2)
   | nil=>
    refine ⟨⟨fun hl=>by rw [hm] at hl; simp at hl,fun _ z us hu hb hok=>?_,fun hl=>by rw [hm] at hl; simp at hl,a9h.view _⟩,(b6t a9h (h2 none 0)).2⟩
    simp only [okArgs,a3x] at hok
    obtain ⟨u,us',f1,f2,rfl,hF,⟨hv,rfl⟩,rfl,rfl⟩:=hok
    simp only [okV] at hv
    obtain ⟨_,a,cap,rfl,_⟩:=hv
    have key:=(b6t a9h (h2 a cap)).1.old hm z [.slice a 0 cap] hu hb (by
     simp only [okArgs,a3x]
     exact ⟨_,[],[],[],rfl,hF,⟨by simp [okV],rfl⟩,rfl,rfl⟩)
    exact Calls.mono' key fun u w' hb=>f9g rfl hb
  ·simp at h
 ·simp at h
noncomputable def c6y:List (Nat × (List Arg→Option Res)):=[(149,a7m 150),(170,a7m 2),(285,a7m 219)]
theorem h2n:∀ f g,lk c6y f=some g→∀ args r,g args=some r→Sound E0 f args r∧Enters E0 f:=by
 intro f g h
 unfold c6y at h
 simp only [lk] at h
 repeat' split at h
 ·rename_i hf; subst hf; simp only [Option.some.injEq] at h; subst h; exact c2s rfl g6r g6s
 ·rename_i hf; subst hf; simp only [Option.some.injEq] at h; subst h; exact c2s rfl g6t g6u
 ·rename_i hf; subst hf; simp only [Option.some.injEq] at h; subst h; exact c2s rfl g6v g6w
 ·simp at h
end Go.TM.Ft
namespace Go.TM.Ft
open Go Go.TM Go.Proofs Go.Proofs.Tryz
set_option maxRecDepth 100000
noncomputable def E:Env:={ E0 with ext:=fun f=>lk c6y f }
noncomputable abbrev fo (f:Nat) (args:List Arg):Option Res:=orc E f args
@[simp] theorem h6e (f:Nat):E.view f=b0z f:=rfl
@[simp] theorem h6g (f r:Nat):E.clr f r=b5b f r:=rfl
theorem E_P:E.P=Tryz.prog:=rfl
theorem h5y:Able E:=⟨fun t i h=>by
 obtain ⟨h1,h2,h3,h4,h5,h6,h7,h8⟩:=a9h.ti t i h
 exact ⟨h1,h2,h3,h4,h5,h6,h7,h8⟩,a9h.mix,a9h.good,fun f g hg args r hr=>by
 obtain ⟨⟨h1,h2,h3,h5⟩,h4⟩:=h2n f g hg args r hr
 exact ⟨⟨h1,h2,h3,h5⟩,h4⟩,a9h.view⟩
@[simp] theorem tiA:E.ti 2=some ty2∧E.ti 3=some ty3∧E.ti 4=some ty4∧E.ti 5=some ty5∧E.ti 9=some ty9∧E.ti 22=some c6z∧E.ti 23=some c7a∧E.ti 30=some c7b∧E.ti 34=some c7c∧E.ti 48=some c7d∧E.ti 49=some c7e∧E.ti 51=some c7f∧E.ti 56=some c7g∧E.ti 57=some c7h∧E.ti 59=some c7i∧E.ti 60=some c7j∧E.ti 74=some c7k∧E.ti 88=some c7l∧E.ti 109=some c5s∧E.ti 111=some c5t∧E.ti 116=some c5u∧E.ti 122=some c5v∧E.ti 124=some c5w∧E.ti 150=some c5x∧E.ti 156=some c5y∧E.ti 160=some c5z∧E.ti 163=some c6a∧E.ti 179=some c6b∧E.ti 180=some c6c∧E.ti 213=some c6d∧E.ti 215=some c6e∧E.ti 219=some c6f∧E.ti 225=some c6g∧E.ti 227=some c6h∧E.ti 229=some c6i∧E.ti 231=some c6j∧E.ti 267=some c6k∧E.ti 268=some c6l∧E.ti 270=some c6m∧E.ti 294=some c6n∧E.ti 307=some c6o∧E.ti 325=some c6p∧E.ti 331=some c6q:=⟨rfl,rfl,rfl,rfl,rfl,rfl,rfl,rfl,rfl,rfl,rfl,rfl,rfl,rfl,rfl,rfl,rfl,rfl,rfl,rfl,rfl,rfl,rfl,rfl,rfl,rfl,rfl,rfl,rfl,rfl,rfl,rfl,rfl,rfl,rfl,rfl,rfl,rfl,rfl,rfl,rfl,rfl,rfl⟩
abbrev EQ (k:Nat) (m:List Mode) (l:LvT) (q:KlT) (p:PrT) (a b:List Nat):Prop:=E.mode k=m∧∀ r:Nat,E.kill k r=(lk q r).getD []∧E.live k r=lk l r∧E.pairs k r=(lk p r).getD []∧E.keep k r=a.contains r∧E.take k r=b.contains r
@[simp] theorem e8:EQ 8 [] f4s f4t f1l [15,19,21,23,26,29,33,34,38,44,49,52,59,61,64,68] [2,6,7,8,12]:=⟨rfl,fun _=>⟨rfl,rfl,rfl,rfl,rfl⟩⟩
abbrev OB (k:Nat) (f:Func):Prop:=∀ {args:List Arg} {r:Res} (n:Nat),a4n E (orc E) n k f args=some r→fo k args=some r
theorem f4r:OB 8 Tryz.f8:=fun n h=>A4 n rfl rfl rfl Tryz.func8 h
@[simp] theorem e13:EQ 13 [] f1m f2k [] [] []:=⟨rfl,fun _=>⟨rfl,rfl,rfl,rfl,rfl⟩⟩
theorem h2o:OB 13 f13:=fun n h=>A4 n rfl rfl rfl func13 h
@[simp] theorem e16:EQ 16 [] f1n f2l [] [6,10,20] []:=⟨rfl,fun _=>⟨rfl,rfl,rfl,rfl,rfl⟩⟩
theorem h2p:OB 16 f16:=fun n h=>A4 n rfl rfl rfl func16 h
@[simp] theorem e17:EQ 17 [] f1o f2m [] [6,10] []:=⟨rfl,fun _=>⟨rfl,rfl,rfl,rfl,rfl⟩⟩
theorem h2q:OB 17 f17:=fun n h=>A4 n rfl rfl rfl func17 h
@[simp] theorem e21:EQ 21 [] f1p f2n [] [] []:=⟨rfl,fun _=>⟨rfl,rfl,rfl,rfl,rfl⟩⟩
theorem h2r:OB 21 f21:=fun n h=>A4 n rfl rfl rfl func21 h
@[simp] theorem e22:EQ 22 [] f1q f2o [] [] []:=⟨rfl,fun _=>⟨rfl,rfl,rfl,rfl,rfl⟩⟩
theorem h2s:OB 22 f22:=fun n h=>A4 n rfl rfl rfl func22 h
@[simp] theorem e24:EQ 24 [.L,.P] f1r f2p [] [] []:=⟨rfl,fun _=>⟨rfl,rfl,rfl,rfl,rfl⟩⟩
theorem h2t:OB 24 f24:=fun n h=>A4 n rfl rfl rfl func24 h
@[simp] theorem e25:EQ 25 [.L,.P] f1s f2q [] [] []:=⟨rfl,fun _=>⟨rfl,rfl,rfl,rfl,rfl⟩⟩
theorem h2u:OB 25 f25:=fun n h=>A4 n rfl rfl rfl func25 h
@[simp] theorem e38:EQ 38 [] f1t f2r [] [] []:=⟨rfl,fun _=>⟨rfl,rfl,rfl,rfl,rfl⟩⟩
theorem h2v:OB 38 f38:=fun n h=>A4 n rfl rfl rfl func38 h
@[simp] theorem e40:EQ 40 [] f1u f2s [] [6,10] [1,2,3]:=⟨rfl,fun _=>⟨rfl,rfl,rfl,rfl,rfl⟩⟩
theorem h2w:OB 40 f40:=fun n h=>A4 n rfl rfl rfl func40 h
@[simp] theorem e42:EQ 42 [] f1v f2t [] [] []:=⟨rfl,fun _=>⟨rfl,rfl,rfl,rfl,rfl⟩⟩
theorem h2x:OB 42 f42:=fun n h=>A4 n rfl rfl rfl func42 h
@[simp] theorem e43:EQ 43 [] f1w f2u [] [] []:=⟨rfl,fun _=>⟨rfl,rfl,rfl,rfl,rfl⟩⟩
theorem h2y:OB 43 f43:=fun n h=>A4 n rfl rfl rfl func43 h
@[simp] theorem e44:EQ 44 [.L,.B] f1x f2v [] [] []:=⟨rfl,fun _=>⟨rfl,rfl,rfl,rfl,rfl⟩⟩
theorem h2z {args r} (n) (h:a2i E (orc E) n (44:Nat) f44 args=some r):fo 44 args=some r:=d4s n rfl rfl rfl func44 h
@[simp] theorem e45:EQ 45 [.L,.B] f1y f2w [] [] []:=⟨rfl,fun _=>⟨rfl,rfl,rfl,rfl,rfl⟩⟩
theorem h3a {args r} (n) (h:a2i E (orc E) n (45:Nat) f45 args=some r):fo 45 args=some r:=d4s n rfl rfl rfl func45 h
@[simp] theorem e46:EQ 46 [] f1z f2x [] [] []:=⟨rfl,fun _=>⟨rfl,rfl,rfl,rfl,rfl⟩⟩
theorem h3b:OB 46 f46:=fun n h=>A4 n rfl rfl rfl func46 h
@[simp] theorem e51:EQ 51 [] f2a f2y [] [9,13,15,22,25,27,38,64] [2,4,6]:=⟨rfl,fun _=>⟨rfl,rfl,rfl,rfl,rfl⟩⟩
theorem c5e:OB 51 f51:=fun n h=>A4 n rfl rfl rfl func51 h
@[simp] theorem e52:EQ 52 [] f2b f2z e0c [12,14,23,25,31,39,47,52,65] [2,4,6,9,10]:=⟨rfl,fun _=>⟨rfl,rfl,rfl,rfl,rfl⟩⟩
theorem f1i:OB 52 f52:=fun n h=>A4 n rfl rfl rfl func52 h
@[simp] theorem e68:EQ 68 [] f2c f3a [] [] []:=⟨rfl,fun _=>⟨rfl,rfl,rfl,rfl,rfl⟩⟩
theorem h3c:OB 68 f68:=fun n h=>A4 n rfl rfl rfl func68 h
@[simp] theorem e75:EQ 75 [] f2d f3b [] [18,22] [1,2,3]:=⟨rfl,fun _=>⟨rfl,rfl,rfl,rfl,rfl⟩⟩
theorem h3d:OB 75 f75:=fun n h=>A4 n rfl rfl rfl func75 h
@[simp] theorem e78:EQ 78 [] f2e f3c [] [] []:=⟨rfl,fun _=>⟨rfl,rfl,rfl,rfl,rfl⟩⟩
theorem f1j:OB 78 f78:=fun n h=>A4 n rfl rfl rfl func78 h
@[simp] theorem e82:EQ 82 [] f2f f3d [] [] []:=⟨rfl,fun _=>⟨rfl,rfl,rfl,rfl,rfl⟩⟩
theorem h3e:OB 82 f82:=fun n h=>A4 n rfl rfl rfl func82 h
@[simp] theorem e83:EQ 83 [] f2g f3e [] [] []:=⟨rfl,fun _=>⟨rfl,rfl,rfl,rfl,rfl⟩⟩
theorem h3f:OB 83 f83:=fun n h=>A4 n rfl rfl rfl func83 h
@[simp] theorem e85:EQ 85 [] f2h f3f [] [] []:=⟨rfl,fun _=>⟨rfl,rfl,rfl,rfl,rfl⟩⟩
theorem f1k:OB 85 f85:=fun n h=>A4 n rfl rfl rfl func85 h
@[simp] theorem e86:EQ 86 [.L,.P] f2i f3g [] [] []:=⟨rfl,fun _=>⟨rfl,rfl,rfl,rfl,rfl⟩⟩
theorem h3g:OB 86 f86:=fun n h=>A4 n rfl rfl rfl func86 h
@[simp] theorem e89:EQ 89 [] f2j f3h [] [] []:=⟨rfl,fun _=>⟨rfl,rfl,rfl,rfl,rfl⟩⟩
theorem h3h:OB 89 f89:=fun n h=>A4 n rfl rfl rfl func89 h
@[simp] theorem h6i:EQ 105 [] e0d e4t [] [] []:=⟨rfl,fun _=>⟨rfl,rfl,rfl,rfl,rfl⟩⟩
theorem g6x:OB 105 f105:=fun n h=>A4 n rfl rfl rfl func105 h
@[simp] theorem h6j:EQ 106 [] e0e e4u [] [] []:=⟨rfl,fun _=>⟨rfl,rfl,rfl,rfl,rfl⟩⟩
theorem g6y:OB 106 f106:=fun n h=>A4 n rfl rfl rfl func106 h
@[simp] theorem h6k:EQ 107 [] e0f e4v [] [] []:=⟨rfl,fun _=>⟨rfl,rfl,rfl,rfl,rfl⟩⟩
theorem g6z:OB 107 f107:=fun n h=>A4 n rfl rfl rfl func107 h
@[simp] theorem h6l:EQ 108 [] e0g e4w [] [] [2]:=⟨rfl,fun _=>⟨rfl,rfl,rfl,rfl,rfl⟩⟩
theorem g7a:OB 108 f108:=fun n h=>A4 n rfl rfl rfl func108 h
@[simp] theorem h6m:EQ 109 [] e0h e4x [] [] []:=⟨rfl,fun _=>⟨rfl,rfl,rfl,rfl,rfl⟩⟩
theorem g7b:OB 109 f109:=fun n h=>A4 n rfl rfl rfl func109 h
@[simp] theorem h6n:EQ 110 [] e0i e4y d5n [7,14,32,35] [1,2,3]:=⟨rfl,fun _=>⟨rfl,rfl,rfl,rfl,rfl⟩⟩
theorem g7c:OB 110 f110:=fun n h=>A4 n rfl rfl rfl func110 h
@[simp] theorem h6o:EQ 111 [] e0j e4z [] [6,10,20] []:=⟨rfl,fun _=>⟨rfl,rfl,rfl,rfl,rfl⟩⟩
theorem g7d:OB 111 f111:=fun n h=>A4 n rfl rfl rfl func111 h
@[simp] theorem h6p:EQ 112 [] e0k e5a [] [6,10,20] []:=⟨rfl,fun _=>⟨rfl,rfl,rfl,rfl,rfl⟩⟩
theorem g7e:OB 112 f112:=fun n h=>A4 n rfl rfl rfl func112 h
@[simp] theorem h6q:EQ 113 [] e0l e5b d5o [] []:=⟨rfl,fun _=>⟨rfl,rfl,rfl,rfl,rfl⟩⟩
theorem g7f:OB 113 f113:=fun n h=>A4 n rfl rfl rfl func113 h
@[simp] theorem h6r:EQ 114 [] e0m e5c [] [] []:=⟨rfl,fun _=>⟨rfl,rfl,rfl,rfl,rfl⟩⟩
theorem g7g:OB 114 f114:=fun n h=>A4 n rfl rfl rfl func114 h
@[simp] theorem h6s:EQ 115 [] c4f c4l c2t [] []:=⟨rfl,fun _=>⟨rfl,rfl,rfl,rfl,rfl⟩⟩
theorem g7h:OB 115 f115:=fun n h=>A4 n rfl rfl rfl func115 h
@[simp] theorem h6t:EQ 116 [] e0n e5d d5p [8,14,25,28] [1,2,3,5]:=⟨rfl,fun _=>⟨rfl,rfl,rfl,rfl,rfl⟩⟩
theorem g7i:OB 116 f116:=fun n h=>A4 n rfl rfl rfl func116 h
@[simp] theorem h6u:EQ 117 [] e0o e5e [] [] []:=⟨rfl,fun _=>⟨rfl,rfl,rfl,rfl,rfl⟩⟩
theorem g7j:OB 117 f117:=fun n h=>A4 n rfl rfl rfl func117 h
@[simp] theorem h6v:EQ 118 [] e0p e5f [] [] []:=⟨rfl,fun _=>⟨rfl,rfl,rfl,rfl,rfl⟩⟩
theorem g7k:OB 118 f118:=fun n h=>A4 n rfl rfl rfl func118 h
@[simp] theorem h6w:EQ 119 [.L,.P] e0q e5g [] [] []:=⟨rfl,fun _=>⟨rfl,rfl,rfl,rfl,rfl⟩⟩
theorem g7l:OB 119 f119:=fun n h=>A4 n rfl rfl rfl func119 h
@[simp] theorem h6x:EQ 120 [.L,.P] e0r e5h [] [] []:=⟨rfl,fun _=>⟨rfl,rfl,rfl,rfl,rfl⟩⟩
theorem g7m:OB 120 f120:=fun n h=>A4 n rfl rfl rfl func120 h
@[simp] theorem h6y:EQ 121 [] e0s e5i [] [] []:=⟨rfl,fun _=>⟨rfl,rfl,rfl,rfl,rfl⟩⟩
theorem g7n:OB 121 f121:=fun n h=>A4 n rfl rfl rfl func121 h
@[simp] theorem h6z:EQ 127 [] c4g c4m c2u [] []:=⟨rfl,fun _=>⟨rfl,rfl,rfl,rfl,rfl⟩⟩
theorem g7o:OB 127 f127:=fun n h=>A4 n rfl rfl rfl func127 h
@[simp] theorem h7a:EQ 129 [] e0t e5j [] [] []:=⟨rfl,fun _=>⟨rfl,rfl,rfl,rfl,rfl⟩⟩
theorem g7p:OB 129 f129:=fun n h=>A4 n rfl rfl rfl func129 h
@[simp] theorem h7b:EQ 130 [.R,.N,.R] e0u e5k [] [] []:=⟨rfl,fun _=>⟨rfl,rfl,rfl,rfl,rfl⟩⟩
theorem g7q:OB 130 f130:=fun n h=>A4 n rfl rfl rfl func130 h
@[simp] theorem h7c:EQ 131 [] c4h c4n c2v [] []:=⟨rfl,fun _=>⟨rfl,rfl,rfl,rfl,rfl⟩⟩
theorem g7r:OB 131 f131:=fun n h=>A4 n rfl rfl rfl func131 h
@[simp] theorem h7d:EQ 132 [] e0v e5l d5q [28] [4,6,30]:=⟨rfl,fun _=>⟨rfl,rfl,rfl,rfl,rfl⟩⟩
theorem d9u:OB 132 f132:=fun n h=>A4 n rfl rfl rfl func132 h
@[simp] theorem h7e:EQ 149 [] c4i c4o c2w [] []:=⟨rfl,fun _=>⟨rfl,rfl,rfl,rfl,rfl⟩⟩
@[simp] theorem h7f:EQ 155 [] e0w e5m [] [] []:=⟨rfl,fun _=>⟨rfl,rfl,rfl,rfl,rfl⟩⟩
theorem g7s:OB 155 f155:=fun n h=>A4 n rfl rfl rfl func155 h
@[simp] theorem h7g:EQ 156 [] e0x e5n [] [] []:=⟨rfl,fun _=>⟨rfl,rfl,rfl,rfl,rfl⟩⟩
theorem g7t:OB 156 f156:=fun n h=>A4 n rfl rfl rfl func156 h
@[simp] theorem h7h:EQ 157 [] e0y e5o [] [] []:=⟨rfl,fun _=>⟨rfl,rfl,rfl,rfl,rfl⟩⟩
theorem d9v:OB 157 f157:=fun n h=>A4 n rfl rfl rfl func157 h
@[simp] theorem h7i:EQ 159 [] e0z e5p [] [] []:=⟨rfl,fun _=>⟨rfl,rfl,rfl,rfl,rfl⟩⟩
theorem d9w:OB 159 f159:=fun n h=>A4 n rfl rfl rfl func159 h
@[simp] theorem h7j:EQ 160 [] e1a e5q [] [] []:=⟨rfl,fun _=>⟨rfl,rfl,rfl,rfl,rfl⟩⟩
theorem g7u:OB 160 f160:=fun n h=>A4 n rfl rfl rfl func160 h
@[simp] theorem h7k:EQ 161 [.R,.N,.R] e1b e5r [] [] []:=⟨rfl,fun _=>⟨rfl,rfl,rfl,rfl,rfl⟩⟩
theorem a6i:OB 161 f161:=fun n h=>A4 n rfl rfl rfl func161 h
@[simp] theorem h7l:EQ 163 [] e1c e5s [] [] []:=⟨rfl,fun _=>⟨rfl,rfl,rfl,rfl,rfl⟩⟩
theorem g7v:OB 163 f163:=fun n h=>A4 n rfl rfl rfl func163 h
@[simp] theorem h7m:EQ 164 [] e1d e5t d5r [9,12,15] [1,2]:=⟨rfl,fun _=>⟨rfl,rfl,rfl,rfl,rfl⟩⟩
theorem g7w:OB 164 f164:=fun n h=>A4 n rfl rfl rfl func164 h
@[simp] theorem h7n:EQ 165 [.R,.N,.R] e1e e5u [] [] []:=⟨rfl,fun _=>⟨rfl,rfl,rfl,rfl,rfl⟩⟩
theorem b1u:OB 165 f165:=fun n h=>A4 n rfl rfl rfl func165 h
@[simp] theorem h7o:EQ 166 [] e1f e5v [] [6,10,20] []:=⟨rfl,fun _=>⟨rfl,rfl,rfl,rfl,rfl⟩⟩
theorem g7x:OB 166 f166:=fun n h=>A4 n rfl rfl rfl func166 h
@[simp] theorem h7p:EQ 167 [] e1g e5w d5s [] []:=⟨rfl,fun _=>⟨rfl,rfl,rfl,rfl,rfl⟩⟩
theorem d9x:OB 167 f167:=fun n h=>A4 n rfl rfl rfl func167 h
@[simp] theorem h7q:EQ 168 [] e1h e5x [] [] []:=⟨rfl,fun _=>⟨rfl,rfl,rfl,rfl,rfl⟩⟩
theorem g7y:OB 168 f168:=fun n h=>A4 n rfl rfl rfl func168 h
@[simp] theorem h7r:EQ 169 [] e1i e5y [] [] []:=⟨rfl,fun _=>⟨rfl,rfl,rfl,rfl,rfl⟩⟩
theorem g7z:OB 169 f169:=fun n h=>A4 n rfl rfl rfl func169 h
@[simp] theorem h7s:EQ 170 [] c4j c4p c2x [] []:=⟨rfl,fun _=>⟨rfl,rfl,rfl,rfl,rfl⟩⟩
@[simp] theorem h7t:EQ 171 [.M,.R] e1j e5z d5t [] []:=⟨rfl,fun _=>⟨rfl,rfl,rfl,rfl,rfl⟩⟩
theorem a7g:OB 171 f171:=fun n h=>A4 n rfl rfl rfl func171 h
@[simp] theorem h7u:EQ 173 [] e1k e6a [] [] []:=⟨rfl,fun _=>⟨rfl,rfl,rfl,rfl,rfl⟩⟩
theorem g8a:OB 173 f173:=fun n h=>A4 n rfl rfl rfl func173 h
@[simp] theorem h7v:EQ 179 [] e1l e6b [] [] []:=⟨rfl,fun _=>⟨rfl,rfl,rfl,rfl,rfl⟩⟩
theorem g8b:OB 179 f179:=fun n h=>A4 n rfl rfl rfl func179 h
@[simp] theorem h7w:EQ 180 [] e1m e6c [] [] []:=⟨rfl,fun _=>⟨rfl,rfl,rfl,rfl,rfl⟩⟩
theorem g8c:OB 180 f180:=fun n h=>A4 n rfl rfl rfl func180 h
@[simp] theorem h7x:EQ 181 [] e1n e6d [] [] []:=⟨rfl,fun _=>⟨rfl,rfl,rfl,rfl,rfl⟩⟩
theorem d9y:OB 181 f181:=fun n h=>A4 n rfl rfl rfl func181 h
@[simp] theorem h7y:EQ 182 [] e1o e6e [] [8,18,21] []:=⟨rfl,fun _=>⟨rfl,rfl,rfl,rfl,rfl⟩⟩
theorem g8d:OB 182 f182:=fun n h=>A4 n rfl rfl rfl func182 h
@[simp] theorem h7z:EQ 183 [] e1p e6f [] [6] [1,2,3]:=⟨rfl,fun _=>⟨rfl,rfl,rfl,rfl,rfl⟩⟩
theorem g8e:OB 183 f183:=fun n h=>A4 n rfl rfl rfl func183 h
@[simp] theorem h8a:EQ 184 [] e1q e6g [] [9] [1,2,3]:=⟨rfl,fun _=>⟨rfl,rfl,rfl,rfl,rfl⟩⟩
theorem g8f:OB 184 f184:=fun n h=>A4 n rfl rfl rfl func184 h
@[simp] theorem h8b:EQ 185 [] e1r e6h [] [] []:=⟨rfl,fun _=>⟨rfl,rfl,rfl,rfl,rfl⟩⟩
theorem d9z:OB 185 f185:=fun n h=>A4 n rfl rfl rfl func185 h
@[simp] theorem h8c:EQ 186 [] e1s e6i d5u [] []:=⟨rfl,fun _=>⟨rfl,rfl,rfl,rfl,rfl⟩⟩
theorem g8g:OB 186 f186:=fun n h=>A4 n rfl rfl rfl func186 h
@[simp] theorem h8d:EQ 187 [] e1t e6j [] [8,16,19] [5]:=⟨rfl,fun _=>⟨rfl,rfl,rfl,rfl,rfl⟩⟩
theorem g8h:OB 187 f187:=fun n h=>A4 n rfl rfl rfl func187 h
@[simp] theorem h8e:EQ 188 [] e1u e6k d5v [5,8,11] [1,2]:=⟨rfl,fun _=>⟨rfl,rfl,rfl,rfl,rfl⟩⟩
theorem g8i:OB 188 f188:=fun n h=>A4 n rfl rfl rfl func188 h
@[simp] theorem h8f:EQ 189 [] e1v e6l [] [] []:=⟨rfl,fun _=>⟨rfl,rfl,rfl,rfl,rfl⟩⟩
theorem g8j:OB 189 f189:=fun n h=>A4 n rfl rfl rfl func189 h
@[simp] theorem h8g:EQ 190 [] e1w e6m [] [] []:=⟨rfl,fun _=>⟨rfl,rfl,rfl,rfl,rfl⟩⟩
theorem g8k:OB 190 f190:=fun n h=>A4 n rfl rfl rfl func190 h
@[simp] theorem h8h:EQ 191 [] e1x e6n [] [] []:=⟨rfl,fun _=>⟨rfl,rfl,rfl,rfl,rfl⟩⟩
theorem g8l:OB 191 f191:=fun n h=>A4 n rfl rfl rfl func191 h
@[simp] theorem h8i:EQ 192 [] e1y e6o [] [] []:=⟨rfl,fun _=>⟨rfl,rfl,rfl,rfl,rfl⟩⟩
theorem g8m:OB 192 f192:=fun n h=>A4 n rfl rfl rfl func192 h
@[simp] theorem h8j:EQ 193 [.M,.R] e1z e6p [] [] []:=⟨rfl,fun _=>⟨rfl,rfl,rfl,rfl,rfl⟩⟩
theorem b1v:OB 193 f193:=fun n h=>A4 n rfl rfl rfl func193 h
@[simp] theorem h8k:EQ 195 [] e2a e6q [] [] []:=⟨rfl,fun _=>⟨rfl,rfl,rfl,rfl,rfl⟩⟩
theorem g8n:OB 195 f195:=fun n h=>A4 n rfl rfl rfl func195 h
@[simp] theorem h8l:EQ 196 [] e2b e6r [] [] []:=⟨rfl,fun _=>⟨rfl,rfl,rfl,rfl,rfl⟩⟩
theorem g8o:OB 196 f196:=fun n h=>A4 n rfl rfl rfl func196 h
@[simp] theorem h8m:EQ 197 [.R,.N,.R] e2c e6s [] [] []:=⟨rfl,fun _=>⟨rfl,rfl,rfl,rfl,rfl⟩⟩
theorem g8p:OB 197 f197:=fun n h=>A4 n rfl rfl rfl func197 h
@[simp] theorem h8n:EQ 198 [] e2d e6t [] [] []:=⟨rfl,fun _=>⟨rfl,rfl,rfl,rfl,rfl⟩⟩
theorem g8q:OB 198 f198:=fun n h=>A4 n rfl rfl rfl func198 h
@[simp] theorem h8o:EQ 199 [] e2e e6u [] [] []:=⟨rfl,fun _=>⟨rfl,rfl,rfl,rfl,rfl⟩⟩
theorem g8r:OB 199 f199:=fun n h=>A4 n rfl rfl rfl func199 h
@[simp] theorem h8p:EQ 200 [.M,.R] e2f e6v [] [] []:=⟨rfl,fun _=>⟨rfl,rfl,rfl,rfl,rfl⟩⟩
theorem g8s:OB 200 f200:=fun n h=>A4 n rfl rfl rfl func200 h
@[simp] theorem h8q:EQ 222 [] e2g e6w [] [] []:=⟨rfl,fun _=>⟨rfl,rfl,rfl,rfl,rfl⟩⟩
theorem g8t:OB 222 f222:=fun n h=>A4 n rfl rfl rfl func222 h
@[simp] theorem h8r:EQ 223 [] e2h e6x d5w [] []:=⟨rfl,fun _=>⟨rfl,rfl,rfl,rfl,rfl⟩⟩
theorem g8u:OB 223 f223:=fun n h=>A4 n rfl rfl rfl func223 h
@[simp] theorem h8s:EQ 224 [] e2i e6y [] [] []:=⟨rfl,fun _=>⟨rfl,rfl,rfl,rfl,rfl⟩⟩
theorem g8v:OB 224 f224:=fun n h=>A4 n rfl rfl rfl func224 h
@[simp] theorem h8t:EQ 225 [] e2j e6z [] [] []:=⟨rfl,fun _=>⟨rfl,rfl,rfl,rfl,rfl⟩⟩
theorem g8w:OB 225 f225:=fun n h=>A4 n rfl rfl rfl func225 h
@[simp] theorem h8u:EQ 226 [.N,.R] e2k e7a [] [] []:=⟨rfl,fun _=>⟨rfl,rfl,rfl,rfl,rfl⟩⟩
theorem g8x:OB 226 f226:=fun n h=>A4 n rfl rfl rfl func226 h
@[simp] theorem h8v:EQ 227 [] e2l e7b [] [] []:=⟨rfl,fun _=>⟨rfl,rfl,rfl,rfl,rfl⟩⟩
theorem g8y:OB 227 f227:=fun n h=>A4 n rfl rfl rfl func227 h
@[simp] theorem h8w:EQ 228 [] e2m e7c [] [] []:=⟨rfl,fun _=>⟨rfl,rfl,rfl,rfl,rfl⟩⟩
theorem g8z:OB 228 f228:=fun n h=>A4 n rfl rfl rfl func228 h
@[simp] theorem h8x:EQ 229 [] e2n e7d [] [] []:=⟨rfl,fun _=>⟨rfl,rfl,rfl,rfl,rfl⟩⟩
theorem g9a:OB 229 f229:=fun n h=>A4 n rfl rfl rfl func229 h
@[simp] theorem h8y:EQ 230 [] e2o e7e [] [] []:=⟨rfl,fun _=>⟨rfl,rfl,rfl,rfl,rfl⟩⟩
theorem g9b:OB 230 f230:=fun n h=>A4 n rfl rfl rfl func230 h
@[simp] theorem h8z:EQ 231 [] e2p e7f [] [] [1,2,3]:=⟨rfl,fun _=>⟨rfl,rfl,rfl,rfl,rfl⟩⟩
theorem g9c:OB 231 f231:=fun n h=>A4 n rfl rfl rfl func231 h
@[simp] theorem h9a:EQ 232 [.R,.M] e2q e7g d5x [] []:=⟨rfl,fun _=>⟨rfl,rfl,rfl,rfl,rfl⟩⟩
theorem g9d:OB 232 f232:=fun n h=>A4 n rfl rfl rfl func232 h
@[simp] theorem h9b:EQ 233 [] e2r e7h [] [] []:=⟨rfl,fun _=>⟨rfl,rfl,rfl,rfl,rfl⟩⟩
theorem g9e:OB 233 f233:=fun n h=>A4 n rfl rfl rfl func233 h
@[simp] theorem h9c:EQ 234 [] e2s e7i d5y [] []:=⟨rfl,fun _=>⟨rfl,rfl,rfl,rfl,rfl⟩⟩
theorem g9f:OB 234 f234:=fun n h=>A4 n rfl rfl rfl func234 h
@[simp] theorem h9d:EQ 235 [] e2t e7j [] [] []:=⟨rfl,fun _=>⟨rfl,rfl,rfl,rfl,rfl⟩⟩
theorem c4c:OB 235 f235:=fun n h=>A4 n rfl rfl rfl func235 h
@[simp] theorem h9e:EQ 236 [] e2u e7k [] [] []:=⟨rfl,fun _=>⟨rfl,rfl,rfl,rfl,rfl⟩⟩
theorem g9g:OB 236 f236:=fun n h=>A4 n rfl rfl rfl func236 h
@[simp] theorem h9f:EQ 237 [.M,.R] e2v e7l [] [] []:=⟨rfl,fun _=>⟨rfl,rfl,rfl,rfl,rfl⟩⟩
theorem g9h:OB 237 f237:=fun n h=>A4 n rfl rfl rfl func237 h
@[simp] theorem h9g:EQ 238 [] e2w e7m [] [] []:=⟨rfl,fun _=>⟨rfl,rfl,rfl,rfl,rfl⟩⟩
theorem g9i:OB 238 f238:=fun n h=>A4 n rfl rfl rfl func238 h
@[simp] theorem h9h:EQ 239 [.M,.R] e2x e7n d5z [] []:=⟨rfl,fun _=>⟨rfl,rfl,rfl,rfl,rfl⟩⟩
theorem g9j:OB 239 f239:=fun n h=>A4 n rfl rfl rfl func239 h
@[simp] theorem h9i:EQ 240 [] e2y e7o [] [] []:=⟨rfl,fun _=>⟨rfl,rfl,rfl,rfl,rfl⟩⟩
theorem g9k:OB 240 f240:=fun n h=>A4 n rfl rfl rfl func240 h
@[simp] theorem h9j:EQ 241 [] e2z e7p [] [] []:=⟨rfl,fun _=>⟨rfl,rfl,rfl,rfl,rfl⟩⟩
theorem g9l:OB 241 f241:=fun n h=>A4 n rfl rfl rfl func241 h
@[simp] theorem h9k:EQ 242 [] e3a e7q [] [9,20,25,30] [5]:=⟨rfl,fun _=>⟨rfl,rfl,rfl,rfl,rfl⟩⟩
theorem g9m:OB 242 f242:=fun n h=>A4 n rfl rfl rfl func242 h
@[simp] theorem h9l:EQ 243 [] e3b e7r [] [12,16,20] [1,2,3]:=⟨rfl,fun _=>⟨rfl,rfl,rfl,rfl,rfl⟩⟩
theorem g9n:OB 243 f243:=fun n h=>A4 n rfl rfl rfl func243 h
@[simp] theorem h9m:EQ 244 [] e3c e7s [] [] []:=⟨rfl,fun _=>⟨rfl,rfl,rfl,rfl,rfl⟩⟩
theorem g9o:OB 244 f244:=fun n h=>A4 n rfl rfl rfl func244 h
@[simp] theorem h9n:EQ 245 [] e3d e7t [] [] []:=⟨rfl,fun _=>⟨rfl,rfl,rfl,rfl,rfl⟩⟩
theorem g9p:OB 245 f245:=fun n h=>A4 n rfl rfl rfl func245 h
@[simp] theorem h9o:EQ 246 [] e3e e7u d6a [8,15,18,24] [5]:=⟨rfl,fun _=>⟨rfl,rfl,rfl,rfl,rfl⟩⟩
theorem g9q:OB 246 f246:=fun n h=>A4 n rfl rfl rfl func246 h
@[simp] theorem h9p:EQ 247 [] e3f e7v d6b [] []:=⟨rfl,fun _=>⟨rfl,rfl,rfl,rfl,rfl⟩⟩
theorem g9r:OB 247 f247:=fun n h=>A4 n rfl rfl rfl func247 h
@[simp] theorem h9q:EQ 248 [] e3g e7w [] [] []:=⟨rfl,fun _=>⟨rfl,rfl,rfl,rfl,rfl⟩⟩
theorem g9s:OB 248 f248:=fun n h=>A4 n rfl rfl rfl func248 h
@[simp] theorem h9r:EQ 249 [] e3h e7x [] [] []:=⟨rfl,fun _=>⟨rfl,rfl,rfl,rfl,rfl⟩⟩
theorem g9t:OB 249 f249:=fun n h=>A4 n rfl rfl rfl func249 h
@[simp] theorem h9s:EQ 250 [] e3i e7y [] [] []:=⟨rfl,fun _=>⟨rfl,rfl,rfl,rfl,rfl⟩⟩
theorem g9u:OB 250 f250:=fun n h=>A4 n rfl rfl rfl func250 h
@[simp] theorem h9t:EQ 251 [] e3j e7z [] [] []:=⟨rfl,fun _=>⟨rfl,rfl,rfl,rfl,rfl⟩⟩
theorem g9v:OB 251 f251:=fun n h=>A4 n rfl rfl rfl func251 h
@[simp] theorem h9u:EQ 262 [] e3k e8a [] [] []:=⟨rfl,fun _=>⟨rfl,rfl,rfl,rfl,rfl⟩⟩
theorem g9w:OB 262 f262:=fun n h=>A4 n rfl rfl rfl func262 h
@[simp] theorem h9v:EQ 263 [] e3l e8b [] [] []:=⟨rfl,fun _=>⟨rfl,rfl,rfl,rfl,rfl⟩⟩
theorem g9x:OB 263 f263:=fun n h=>A4 n rfl rfl rfl func263 h
@[simp] theorem h9w:EQ 264 [] e3m e8c [] [] []:=⟨rfl,fun _=>⟨rfl,rfl,rfl,rfl,rfl⟩⟩
theorem g9y:OB 264 f264:=fun n h=>A4 n rfl rfl rfl func264 h
@[simp] theorem h9x:EQ 265 [] e3n e8d [] [] []:=⟨rfl,fun _=>⟨rfl,rfl,rfl,rfl,rfl⟩⟩
theorem g9z:OB 265 f265:=fun n h=>A4 n rfl rfl rfl func265 h
@[simp] theorem h9y:EQ 266 [] e3o e8e [] [] []:=⟨rfl,fun _=>⟨rfl,rfl,rfl,rfl,rfl⟩⟩
theorem h0a:OB 266 f266:=fun n h=>A4 n rfl rfl rfl func266 h
@[simp] theorem h9z:EQ 267 [] e3p e8f [] [] []:=⟨rfl,fun _=>⟨rfl,rfl,rfl,rfl,rfl⟩⟩
theorem c4d:OB 267 f267:=fun n h=>A4 n rfl rfl rfl func267 h
@[simp] theorem i0a:EQ 268 [] e3q e8g [] [] []:=⟨rfl,fun _=>⟨rfl,rfl,rfl,rfl,rfl⟩⟩
theorem h0b:OB 268 f268:=fun n h=>A4 n rfl rfl rfl func268 h
@[simp] theorem i0b:EQ 269 [] e3r e8h [] [] []:=⟨rfl,fun _=>⟨rfl,rfl,rfl,rfl,rfl⟩⟩
theorem h0c:OB 269 f269:=fun n h=>A4 n rfl rfl rfl func269 h
@[simp] theorem i0c:EQ 270 [] e3s e8i [] [] []:=⟨rfl,fun _=>⟨rfl,rfl,rfl,rfl,rfl⟩⟩
theorem h0d:OB 270 f270:=fun n h=>A4 n rfl rfl rfl func270 h
@[simp] theorem i0d:EQ 271 [] e3t e8j [] [] []:=⟨rfl,fun _=>⟨rfl,rfl,rfl,rfl,rfl⟩⟩
theorem h0e:OB 271 f271:=fun n h=>A4 n rfl rfl rfl func271 h
@[simp] theorem i0e:EQ 272 [] e3u e8k [] [] []:=⟨rfl,fun _=>⟨rfl,rfl,rfl,rfl,rfl⟩⟩
theorem h0f:OB 272 f272:=fun n h=>A4 n rfl rfl rfl func272 h
@[simp] theorem i0f:EQ 273 [.M,.R] e3v e8l d6c [] []:=⟨rfl,fun _=>⟨rfl,rfl,rfl,rfl,rfl⟩⟩
theorem h0g:OB 273 f273:=fun n h=>A4 n rfl rfl rfl func273 h
@[simp] theorem i0g:EQ 274 [.M] e3w e8m [] [] []:=⟨rfl,fun _=>⟨rfl,rfl,rfl,rfl,rfl⟩⟩
theorem h0h:OB 274 f274:=fun n h=>A4 n rfl rfl rfl func274 h
@[simp] theorem i0h:EQ 275 [] e3x e8n [] [] []:=⟨rfl,fun _=>⟨rfl,rfl,rfl,rfl,rfl⟩⟩
theorem h0i:OB 275 f275:=fun n h=>A4 n rfl rfl rfl func275 h
@[simp] theorem i0i:EQ 276 [] e3y e8o [] [] []:=⟨rfl,fun _=>⟨rfl,rfl,rfl,rfl,rfl⟩⟩
theorem e0a:OB 276 f276:=fun n h=>A4 n rfl rfl rfl func276 h
@[simp] theorem i0j:EQ 277 [] e3z e8p [] [] []:=⟨rfl,fun _=>⟨rfl,rfl,rfl,rfl,rfl⟩⟩
theorem h0j:OB 277 f277:=fun n h=>A4 n rfl rfl rfl func277 h
@[simp] theorem i0k:EQ 278 [] e4a e8q [] [] []:=⟨rfl,fun _=>⟨rfl,rfl,rfl,rfl,rfl⟩⟩
theorem h0k:OB 278 f278:=fun n h=>A4 n rfl rfl rfl func278 h
@[simp] theorem i0l:EQ 279 [] e4b e8r [] [] []:=⟨rfl,fun _=>⟨rfl,rfl,rfl,rfl,rfl⟩⟩
theorem e0b:OB 279 f279:=fun n h=>A4 n rfl rfl rfl func279 h
@[simp] theorem i0m:EQ 280 [] e4c e8s [] [] []:=⟨rfl,fun _=>⟨rfl,rfl,rfl,rfl,rfl⟩⟩
theorem c4e:OB 280 f280:=fun n h=>A4 n rfl rfl rfl func280 h
@[simp] theorem i0n:EQ 281 [] e4d e8t [] [] []:=⟨rfl,fun _=>⟨rfl,rfl,rfl,rfl,rfl⟩⟩
theorem h0l:OB 281 f281:=fun n h=>A4 n rfl rfl rfl func281 h
@[simp] theorem i0o:EQ 282 [] e4e e8u [] [] []:=⟨rfl,fun _=>⟨rfl,rfl,rfl,rfl,rfl⟩⟩
theorem h0m:OB 282 f282:=fun n h=>A4 n rfl rfl rfl func282 h
@[simp] theorem i0p:EQ 283 [] e4f e8v [] [] []:=⟨rfl,fun _=>⟨rfl,rfl,rfl,rfl,rfl⟩⟩
theorem h0n:OB 283 f283:=fun n h=>A4 n rfl rfl rfl func283 h
@[simp] theorem i0q:EQ 284 [] e4g e8w d6d [] []:=⟨rfl,fun _=>⟨rfl,rfl,rfl,rfl,rfl⟩⟩
theorem h0o:OB 284 f284:=fun n h=>A4 n rfl rfl rfl func284 h
@[simp] theorem i0r:EQ 285 [] c4k c4q c2y [] []:=⟨rfl,fun _=>⟨rfl,rfl,rfl,rfl,rfl⟩⟩
@[simp] theorem i0s:EQ 286 [] e4h e8x [] [] []:=⟨rfl,fun _=>⟨rfl,rfl,rfl,rfl,rfl⟩⟩
theorem h0p:OB 286 f286:=fun n h=>A4 n rfl rfl rfl func286 h
@[simp] theorem i0t:EQ 287 [] e4i e8y [] [] []:=⟨rfl,fun _=>⟨rfl,rfl,rfl,rfl,rfl⟩⟩
theorem h0q:OB 287 f287:=fun n h=>A4 n rfl rfl rfl func287 h
@[simp] theorem i0u:EQ 294 [] e4j e8z [] [] []:=⟨rfl,fun _=>⟨rfl,rfl,rfl,rfl,rfl⟩⟩
theorem h0r:OB 294 f294:=fun n h=>A4 n rfl rfl rfl func294 h
@[simp] theorem i0v:EQ 295 [.R,.R,.V] e4k e9a [] [24,38] []:=⟨rfl,fun _=>⟨rfl,rfl,rfl,rfl,rfl⟩⟩
theorem h0s:OB 295 f295:=fun n h=>A4 n rfl rfl rfl func295 h
@[simp] theorem i0w:EQ 296 [] e4l e9b [] [] []:=⟨rfl,fun _=>⟨rfl,rfl,rfl,rfl,rfl⟩⟩
theorem h0t:OB 296 f296:=fun n h=>A4 n rfl rfl rfl func296 h
@[simp] theorem i0x:EQ 297 [] e4m e9c [] [] []:=⟨rfl,fun _=>⟨rfl,rfl,rfl,rfl,rfl⟩⟩
theorem h0u:OB 297 f297:=fun n h=>A4 n rfl rfl rfl func297 h
@[simp] theorem i0y:EQ 298 [] e4n e9d [] [] []:=⟨rfl,fun _=>⟨rfl,rfl,rfl,rfl,rfl⟩⟩
theorem h0v:OB 298 f298:=fun n h=>A4 n rfl rfl rfl func298 h
@[simp] theorem i0z:EQ 299 [] e4o e9e [] [] []:=⟨rfl,fun _=>⟨rfl,rfl,rfl,rfl,rfl⟩⟩
theorem h0w:OB 299 f299:=fun n h=>A4 n rfl rfl rfl func299 h
@[simp] theorem i1a:EQ 300 [] e4p e9f d6e [] []:=⟨rfl,fun _=>⟨rfl,rfl,rfl,rfl,rfl⟩⟩
theorem h0x:OB 300 f300:=fun n h=>A4 n rfl rfl rfl func300 h
@[simp] theorem i1b:EQ 301 [] e4q e9g [] [] []:=⟨rfl,fun _=>⟨rfl,rfl,rfl,rfl,rfl⟩⟩
theorem h0y:OB 301 f301:=fun n h=>A4 n rfl rfl rfl func301 h
@[simp] theorem i1c:EQ 302 [] e4r e9h [] [] []:=⟨rfl,fun _=>⟨rfl,rfl,rfl,rfl,rfl⟩⟩
theorem h0z:OB 302 f302:=fun n h=>A4 n rfl rfl rfl func302 h
@[simp] theorem i1d:EQ 306 [] e4s e9i [] [] []:=⟨rfl,fun _=>⟨rfl,rfl,rfl,rfl,rfl⟩⟩
theorem h1a:OB 306 f306:=fun n h=>A4 n rfl rfl rfl func306 h
end Go.TM.Ft
