/- The tables that the machine is told. -/
import Derived.Test.YtlmiemdojgahaaaGreatSE0
set_option linter.unusedSimpArgs false
set_option linter.unusedVariables false
namespace Go.TM.Ft
open Go Go.TM Go.Proofs
set_option maxRecDepth 100000
attribute [local congr] gif_cg
attribute [local simp] body_eq code_seq code_block code_skip code_ret code_exit code_loop code_cond code_region thenC_normal thenC_ret thenC_exit thenC_none outB_normal outB_ret outB_exit outB_none endB_normal endB_ret thenC_ite thenC_ite' outB_ite outB_ite' endB_ite endB_ite' nextL_normal nextL_ret nextL_exit nextL_ite nextL_ite' ite_Res evRegion evOps evOne wanted initFr initRt evOp Rd.of Rd.bind Rd.run Rd.touched St.val lk up toVal plainEff St.apply setsOk setsApart apartFrom newOk setCells setCell strike unspent spent only reFr reRt reX re1 re0 stampOf isDead finish resTop resAll resOne closeT closeL close1 outsOf tupled clean cleanL cleanEs nilOf callEff0 lends finishX sealP reP notNil hvOf nxt clrT evClear clearOf plainCell callEff far isN callFar farArgs placeN rowN putN mkArgs mkArg seal2 seal1 seal0 sealCells distinct comeBack sealRes seal_ sealL sealEs Eff.with ite_T ite_vint ite_some' orB_tr orB_fr andB_tr andB_fr orB_tl orB_fl andB_tl andB_fl notB_t notB_f notB_notB gif_t gif_f gif_same gif_and gif_some gif_Eff gif_T eqW_t eqW_f wantV_bool' wantV_undef' wantV_gif gif_bf pif_t pif_f pickT_v pick_or pick_or2 pick_or2a pick_and pick_and2 pick_and4 pick_and5 pick_or3 pick_and3 content rdPlace rdCells rdRow splice setRow wrRow takeRef inline1 inlineL descend graft view1 viewFrom closed1 flat1 tupView tupCells bare rooted boundOf cap1 one1 srcOf dstOf stamp fillParts fillElems partCells zeroAt evBuildParts evElems lentRow Root.at_ newOk loopOf loopsC evOpsK pause fresh ownLen without args sliceLen valsOf oneVal intArg loadT cell1 anyOwn isOwn T.cells
attribute [local simp] footOf noClash clash upsets setsHit setHits layHits layMeets setsMeet evFeet
def cloneT (e:TypeId) (args:List Arg):Option Res:=
 match args with
 | [⟨.sl e' es,none⟩]=>if e'=e∧es.all (·.all one1)=true∧es.length≤maxElems then some ⟨.own e es,[],cleanEs es⟩ else none
 | _=>none
theorem E0_P:E0.P=Tryz.prog:=rfl
theorem pr_nil149 (a:Option Addr) (c:Nat) (x y:Operand):pureRun Tryz.prog (do eqGuard .eql 60 x y (.slice a 0 c) (.slice none 0 0); binOp .eql 60 (.slice a 0 c) (.slice none 0 0))=some (.bool a.isNone):=by
 cases a <;> kernel_rfl
theorem f0c_149 (x:List T) (r:List (List T)) (h1:(x::r).all (·.all one1)=true) (h2:(x::r).length≤maxElems):
  orc E0 (149:Nat) [⟨.sl 150 (x::r),none⟩]=some ⟨.own 150 (x::r),[],cleanEs (x::r)⟩:=by
 have h3:r.length+1≤maxElems:=by simpa using h2
 refine orc0_149 1 ?_
 simp only [List.all_cons,Bool.and_eq_true] at h1
 simp (maxSteps:=1000000) +contextual -dsimp [Tryz.f149,h1.1,h1.2,h3,List.set,E0_P]
theorem f0n_149 (a:Option Addr) (c:Nat):orc E0 (149:Nat) [⟨.v (.slice a 0 c),none⟩]=some ⟨.own 150 [],[],true⟩:=by
 have g:=pr_nil149 a c
 refine orc0_149 1 ?_
 cases a
 ·simp (maxSteps:=1000000) +contextual -dsimp [Tryz.f149,g,List.set,E0_P]
 ·simp (maxSteps:=1000000) +contextual -dsimp [Tryz.f149,g,List.set,E0_P]
theorem pr_nil170 (a:Option Addr) (c:Nat) (x y:Operand):pureRun Tryz.prog (do eqGuard .eql 23 x y (.slice a 0 c) (.slice none 0 0); binOp .eql 23 (.slice a 0 c) (.slice none 0 0))=some (.bool a.isNone):=by
 cases a <;> kernel_rfl
theorem f0c_170 (x:List T) (r:List (List T)) (h1:(x::r).all (·.all one1)=true) (h2:(x::r).length≤maxElems):
  orc E0 (170:Nat) [⟨.sl 2 (x::r),none⟩]=some ⟨.own 2 (x::r),[],cleanEs (x::r)⟩:=by
 have h3:r.length+1≤maxElems:=by simpa using h2
 refine orc0_170 1 ?_
 simp only [List.all_cons,Bool.and_eq_true] at h1
 simp (maxSteps:=1000000) +contextual -dsimp [Tryz.f170,h1.1,h1.2,h3,List.set,E0_P]
theorem f0n_170 (a:Option Addr) (c:Nat):orc E0 (170:Nat) [⟨.v (.slice a 0 c),none⟩]=some ⟨.own 2 [],[],true⟩:=by
 have g:=pr_nil170 a c
 refine orc0_170 1 ?_
 cases a
 ·simp (maxSteps:=1000000) +contextual -dsimp [Tryz.f170,g,List.set,E0_P]
 ·simp (maxSteps:=1000000) +contextual -dsimp [Tryz.f170,g,List.set,E0_P]
theorem pr_nil285 (a:Option Addr) (c:Nat) (x y:Operand):pureRun Tryz.prog (do eqGuard .eql 122 x y (.slice a 0 c) (.slice none 0 0); binOp .eql 122 (.slice a 0 c) (.slice none 0 0))=some (.bool a.isNone):=by
 cases a <;> kernel_rfl
theorem f0c_285 (x:List T) (r:List (List T)) (h1:(x::r).all (·.all one1)=true) (h2:(x::r).length≤maxElems):
  orc E0 (285:Nat) [⟨.sl 219 (x::r),none⟩]=some ⟨.own 219 (x::r),[],cleanEs (x::r)⟩:=by
 have h3:r.length+1≤maxElems:=by simpa using h2
 refine orc0_285 1 ?_
 simp only [List.all_cons,Bool.and_eq_true] at h1
 simp (maxSteps:=1000000) +contextual -dsimp [Tryz.f285,h1.1,h1.2,h3,List.set,E0_P]
theorem f0n_285 (a:Option Addr) (c:Nat):orc E0 (285:Nat) [⟨.v (.slice a 0 c),none⟩]=some ⟨.own 219 [],[],true⟩:=by
 have g:=pr_nil285 a c
 refine orc0_285 1 ?_
 cases a
 ·simp (maxSteps:=1000000) +contextual -dsimp [Tryz.f285,g,List.set,E0_P]
 ·simp (maxSteps:=1000000) +contextual -dsimp [Tryz.f285,g,List.set,E0_P]
theorem back_other {sz:TypeId→Nat} {z:Zn} {args args':List Arg} {us:List Value} {r:Res} {u:Value} {w':World} (hr:r.outs=[]) (hb:Back sz z args us r u w'):Back sz z args' us r u w':=by
 obtain ⟨h1,⟨f,fo,b1,b2,b3,b4⟩,h3⟩:=hb
 rw [hr] at b2
 exact ⟨h1,⟨f,fo,b1,by rw [hr]; exact b2,b3,b4⟩,h3⟩
theorem clone_ok {k:Nat} {e:TypeId} (hm:lends (E0.mode k)=false) (h1:∀ x r,(x::r).all (·.all one1)=true→(x::r).length≤maxElems→orc E0 k [⟨.sl e (x::r),none⟩]=some ⟨.own e (x::r),[],cleanEs (x::r)⟩)
  (h2:∀ a c,orc E0 k [⟨.v (.slice a 0 c),none⟩]=some ⟨.own e [],[],true⟩):∀ args r,cloneT e args=some r→Sound E0 k args r∧Enters E0 k:=by
 intro args r h
 unfold cloneT at h
 split at h
 ·rename_i e' es
  split at h
  ·rename_i hc
   obtain ⟨rfl,hc1,hc2⟩:=hc
   simp only [Option.some.injEq] at h
   subst h
   cases es with
   | cons x r=>exact orc_sound able0 (h1 x r hc1 hc2)
   | nil=>
    refine ⟨⟨fun hl=>by rw [hm] at hl; simp at hl,fun _ z us hu hb hok=>?_,fun hl=>by rw [hm] at hl; simp at hl⟩,(orc_sound able0 (h2 none 0)).2⟩
    simp only [okArgs,okArg] at hok
    obtain ⟨u,us',f1,f2,rfl,hF,⟨hv,rfl⟩,rfl,rfl⟩:=hok
    simp only [okV] at hv
    obtain ⟨_,a,cap,rfl,_⟩:=hv
    have key:=(orc_sound able0 (h2 a cap)).1.old hm z [.slice a 0 cap] hu hb (by
     simp only [okArgs,okArg]
     exact ⟨_,[],[],[],rfl,hF,⟨by simp [okV],rfl⟩,rfl,rfl⟩)
    exact Calls.mono' key fun u w' hb=>back_other rfl hb
  ·simp at h
 ·simp at h
noncomputable def extT:List (Nat × (List Arg→Option Res)):=[(149,cloneT 150),(170,cloneT 2),(285,cloneT 219)]
theorem ext_ok:∀ f g,lk extT f=some g→∀ args r,g args=some r→Sound E0 f args r∧Enters E0 f:=by
 intro f g h
 unfold extT at h
 simp only [lk] at h
 repeat' split at h
 ·rename_i hf; subst hf; simp only [Option.some.injEq] at h; subst h; exact clone_ok rfl f0c_149 f0n_149
 ·rename_i hf; subst hf; simp only [Option.some.injEq] at h; subst h; exact clone_ok rfl f0c_170 f0n_170
 ·rename_i hf; subst hf; simp only [Option.some.injEq] at h; subst h; exact clone_ok rfl f0c_285 f0n_285
 ·simp at h
end Go.TM.Ft
namespace Go.TM.Ft
open Go Go.TM Go.Proofs
set_option maxRecDepth 100000
noncomputable def E:Env:={ E0 with ext:=fun f=>lk extT f }
noncomputable abbrev fo (f:Nat) (args:List Arg):Option Res:=orc E f args
@[simp] theorem E_clr (f r:Nat):E.clr f r=clrT f r:=rfl
theorem E_P:E.P=Tryz.prog:=rfl
theorem able:Able E:=⟨fun t i h=>by
 obtain ⟨h1,h2,h3,h4,h5,h6,h7,h8⟩:=able0.ti t i h
 exact ⟨h1,h2,h3,h4,h5,h6,h7,h8⟩,able0.mix,able0.good,fun f g hg args r hr=>by
 obtain ⟨⟨h1,h2,h3⟩,h4⟩:=ext_ok f g hg args r hr
 exact ⟨⟨h1,h2,h3⟩,h4⟩⟩
@[simp] theorem ti2:E.ti 2=some ty2:=rfl
@[simp] theorem ti3:E.ti 3=some ty3:=rfl
@[simp] theorem ti4:E.ti 4=some ty4:=rfl
@[simp] theorem ti5:E.ti 5=some ty5:=rfl
@[simp] theorem ti9:E.ti 9=some ty9:=rfl
@[simp] theorem ti20:E.ti 20=some ty20:=rfl
@[simp] theorem ti22:E.ti 22=some ty22:=rfl
@[simp] theorem ti23:E.ti 23=some ty23:=rfl
@[simp] theorem ti30:E.ti 30=some ty30:=rfl
@[simp] theorem ti34:E.ti 34=some ty34:=rfl
@[simp] theorem ti48:E.ti 48=some ty48:=rfl
@[simp] theorem ti49:E.ti 49=some ty49:=rfl
@[simp] theorem ti51:E.ti 51=some ty51:=rfl
@[simp] theorem ti52:E.ti 52=some ty52:=rfl
@[simp] theorem ti54:E.ti 54=some ty54:=rfl
@[simp] theorem ti56:E.ti 56=some ty56:=rfl
@[simp] theorem ti57:E.ti 57=some ty57:=rfl
@[simp] theorem ti59:E.ti 59=some ty59:=rfl
@[simp] theorem ti60:E.ti 60=some ty60:=rfl
@[simp] theorem ti62:E.ti 62=some ty62:=rfl
@[simp] theorem ti88:E.ti 88=some ty88:=rfl
@[simp] theorem ti90:E.ti 90=some ty90:=rfl
@[simp] theorem ti92:E.ti 92=some ty92:=rfl
@[simp] theorem ti94:E.ti 94=some ty94:=rfl
@[simp] theorem ti96:E.ti 96=some ty96:=rfl
@[simp] theorem ti98:E.ti 98=some ty98:=rfl
@[simp] theorem ti109:E.ti 109=some ty109:=rfl
@[simp] theorem ti111:E.ti 111=some ty111:=rfl
@[simp] theorem ti122:E.ti 122=some ty122:=rfl
@[simp] theorem ti124:E.ti 124=some ty124:=rfl
@[simp] theorem ti139:E.ti 139=some ty139:=rfl
@[simp] theorem ti150:E.ti 150=some ty150:=rfl
@[simp] theorem ti156:E.ti 156=some ty156:=rfl
@[simp] theorem ti160:E.ti 160=some ty160:=rfl
@[simp] theorem ti163:E.ti 163=some ty163:=rfl
@[simp] theorem ti179:E.ti 179=some ty179:=rfl
@[simp] theorem ti180:E.ti 180=some ty180:=rfl
@[simp] theorem ti189:E.ti 189=some ty189:=rfl
@[simp] theorem ti193:E.ti 193=some ty193:=rfl
@[simp] theorem ti213:E.ti 213=some ty213:=rfl
@[simp] theorem ti215:E.ti 215=some ty215:=rfl
@[simp] theorem ti219:E.ti 219=some ty219:=rfl
@[simp] theorem ti222:E.ti 222=some ty222:=rfl
@[simp] theorem ti225:E.ti 225=some ty225:=rfl
@[simp] theorem ti227:E.ti 227=some ty227:=rfl
@[simp] theorem ti229:E.ti 229=some ty229:=rfl
@[simp] theorem ti231:E.ti 231=some ty231:=rfl
@[simp] theorem ti249:E.ti 249=some ty249:=rfl
@[simp] theorem ti267:E.ti 267=some ty267:=rfl
@[simp] theorem ti268:E.ti 268=some ty268:=rfl
@[simp] theorem ti270:E.ti 270=some ty270:=rfl
@[simp] theorem ti284:E.ti 284=some ty284:=rfl
@[simp] theorem ti289:E.ti 289=some ty289:=rfl
@[simp] theorem ti294:E.ti 294=some ty294:=rfl
@[simp] theorem ti307:E.ti 307=some ty307:=rfl
@[simp] theorem ti312:E.ti 312=some ty312:=rfl
@[simp] theorem ti325:E.ti 325=some ty325:=rfl
@[simp] theorem ti331:E.ti 331=some ty331:=rfl
@[simp] theorem e10:E.mode (10:Nat)=[]∧∀ r:Nat,E.kill (10:Nat) r=(lk kill10 r).getD []∧E.live (10:Nat) r=lk live10 r∧E.pairs (10:Nat) r=(lk pairs10 r).getD []∧E.keep (10:Nat) r=([13,17,18,20,22,25,29,30,34,40,45,48,55,56,59,63]:List Nat).contains r∧E.take (10:Nat) r=([1,4,5,6,10]:List Nat).contains r:=⟨rfl,fun _=>⟨rfl,rfl,rfl,rfl,rfl⟩⟩
theorem orc_10 {args r} (n) (h:evBody E (orc E) n (10:Nat) Tryz.f10 args=some r):fo 10 args=some r:=orc_body n rfl rfl rfl Tryz.func10 h
@[simp] theorem e13:E.mode (13:Nat)=[]∧∀ r:Nat,E.kill (13:Nat) r=(lk kill13 r).getD []∧E.live (13:Nat) r=lk live13 r∧E.pairs (13:Nat) r=(lk pairs13 r).getD []∧E.keep (13:Nat) r=false∧E.take (13:Nat) r=false:=⟨rfl,fun _=>⟨rfl,rfl,rfl,rfl,rfl⟩⟩
theorem orc_13 {args r} (n) (h:evBody E (orc E) n (13:Nat) Tryz.f13 args=some r):fo 13 args=some r:=orc_body n rfl rfl rfl Tryz.func13 h
@[simp] theorem e16:E.mode (16:Nat)=[]∧∀ r:Nat,E.kill (16:Nat) r=(lk kill16 r).getD []∧E.live (16:Nat) r=lk live16 r∧E.pairs (16:Nat) r=(lk pairs16 r).getD []∧E.keep (16:Nat) r=([6,10,20]:List Nat).contains r∧E.take (16:Nat) r=false:=⟨rfl,fun _=>⟨rfl,rfl,rfl,rfl,rfl⟩⟩
theorem orc_16 {args r} (n) (h:evBody E (orc E) n (16:Nat) Tryz.f16 args=some r):fo 16 args=some r:=orc_body n rfl rfl rfl Tryz.func16 h
@[simp] theorem e17:E.mode (17:Nat)=[]∧∀ r:Nat,E.kill (17:Nat) r=(lk kill17 r).getD []∧E.live (17:Nat) r=lk live17 r∧E.pairs (17:Nat) r=(lk pairs17 r).getD []∧E.keep (17:Nat) r=([6,10]:List Nat).contains r∧E.take (17:Nat) r=false:=⟨rfl,fun _=>⟨rfl,rfl,rfl,rfl,rfl⟩⟩
theorem orc_17 {args r} (n) (h:evBody E (orc E) n (17:Nat) Tryz.f17 args=some r):fo 17 args=some r:=orc_body n rfl rfl rfl Tryz.func17 h
@[simp] theorem e21:E.mode (21:Nat)=[]∧∀ r:Nat,E.kill (21:Nat) r=(lk kill21 r).getD []∧E.live (21:Nat) r=lk live21 r∧E.pairs (21:Nat) r=(lk pairs21 r).getD []∧E.keep (21:Nat) r=false∧E.take (21:Nat) r=false:=⟨rfl,fun _=>⟨rfl,rfl,rfl,rfl,rfl⟩⟩
theorem orc_21 {args r} (n) (h:evBody E (orc E) n (21:Nat) Tryz.f21 args=some r):fo 21 args=some r:=orc_body n rfl rfl rfl Tryz.func21 h
@[simp] theorem e22:E.mode (22:Nat)=[]∧∀ r:Nat,E.kill (22:Nat) r=(lk kill22 r).getD []∧E.live (22:Nat) r=lk live22 r∧E.pairs (22:Nat) r=(lk pairs22 r).getD []∧E.keep (22:Nat) r=false∧E.take (22:Nat) r=false:=⟨rfl,fun _=>⟨rfl,rfl,rfl,rfl,rfl⟩⟩
theorem orc_22 {args r} (n) (h:evBody E (orc E) n (22:Nat) Tryz.f22 args=some r):fo 22 args=some r:=orc_body n rfl rfl rfl Tryz.func22 h
@[simp] theorem e24:E.mode (24:Nat)=[.L,.P]∧∀ r:Nat,E.kill (24:Nat) r=(lk kill24 r).getD []∧E.live (24:Nat) r=lk live24 r∧E.pairs (24:Nat) r=(lk pairs24 r).getD []∧E.keep (24:Nat) r=false∧E.take (24:Nat) r=false:=⟨rfl,fun _=>⟨rfl,rfl,rfl,rfl,rfl⟩⟩
theorem orc_24 {args r} (n) (h:evBody E (orc E) n (24:Nat) Tryz.f24 args=some r):fo 24 args=some r:=orc_body n rfl rfl rfl Tryz.func24 h
@[simp] theorem e25:E.mode (25:Nat)=[.L,.P]∧∀ r:Nat,E.kill (25:Nat) r=(lk kill25 r).getD []∧E.live (25:Nat) r=lk live25 r∧E.pairs (25:Nat) r=(lk pairs25 r).getD []∧E.keep (25:Nat) r=false∧E.take (25:Nat) r=false:=⟨rfl,fun _=>⟨rfl,rfl,rfl,rfl,rfl⟩⟩
theorem orc_25 {args r} (n) (h:evBody E (orc E) n (25:Nat) Tryz.f25 args=some r):fo 25 args=some r:=orc_body n rfl rfl rfl Tryz.func25 h
@[simp] theorem e29:E.mode (29:Nat)=[]∧∀ r:Nat,E.kill (29:Nat) r=(lk kill29 r).getD []∧E.live (29:Nat) r=lk live29 r∧E.pairs (29:Nat) r=(lk pairs29 r).getD []∧E.keep (29:Nat) r=false∧E.take (29:Nat) r=false:=⟨rfl,fun _=>⟨rfl,rfl,rfl,rfl,rfl⟩⟩
theorem orc_29 {args r} (n) (h:evBody E (orc E) n (29:Nat) Tryz.f29 args=some r):fo 29 args=some r:=orc_body n rfl rfl rfl Tryz.func29 h
@[simp] theorem e31:E.mode (31:Nat)=[]∧∀ r:Nat,E.kill (31:Nat) r=(lk kill31 r).getD []∧E.live (31:Nat) r=lk live31 r∧E.pairs (31:Nat) r=(lk pairs31 r).getD []∧E.keep (31:Nat) r=([6,10]:List Nat).contains r∧E.take (31:Nat) r=([1,2,3]:List Nat).contains r:=⟨rfl,fun _=>⟨rfl,rfl,rfl,rfl,rfl⟩⟩
theorem orc_31 {args r} (n) (h:evBody E (orc E) n (31:Nat) Tryz.f31 args=some r):fo 31 args=some r:=orc_body n rfl rfl rfl Tryz.func31 h
@[simp] theorem e34:E.mode (34:Nat)=[]∧∀ r:Nat,E.kill (34:Nat) r=(lk kill34 r).getD []∧E.live (34:Nat) r=lk live34 r∧E.pairs (34:Nat) r=(lk pairs34 r).getD []∧E.keep (34:Nat) r=false∧E.take (34:Nat) r=false:=⟨rfl,fun _=>⟨rfl,rfl,rfl,rfl,rfl⟩⟩
theorem orc_34 {args r} (n) (h:evBody E (orc E) n (34:Nat) Tryz.f34 args=some r):fo 34 args=some r:=orc_body n rfl rfl rfl Tryz.func34 h
@[simp] theorem e35:E.mode (35:Nat)=[.L,.B]∧∀ r:Nat,E.kill (35:Nat) r=(lk kill35 r).getD []∧E.live (35:Nat) r=lk live35 r∧E.pairs (35:Nat) r=(lk pairs35 r).getD []∧E.keep (35:Nat) r=false∧E.take (35:Nat) r=false:=⟨rfl,fun _=>⟨rfl,rfl,rfl,rfl,rfl⟩⟩
theorem orc_35 {args r} (n) (h:evBodyB E (orc E) n (35:Nat) Tryz.f35 args=some r):fo 35 args=some r:=orc_bodyB n rfl rfl rfl Tryz.func35 h
@[simp] theorem e38:E.mode (38:Nat)=[]∧∀ r:Nat,E.kill (38:Nat) r=(lk kill38 r).getD []∧E.live (38:Nat) r=lk live38 r∧E.pairs (38:Nat) r=(lk pairs38 r).getD []∧E.keep (38:Nat) r=false∧E.take (38:Nat) r=false:=⟨rfl,fun _=>⟨rfl,rfl,rfl,rfl,rfl⟩⟩
theorem orc_38 {args r} (n) (h:evBody E (orc E) n (38:Nat) Tryz.f38 args=some r):fo 38 args=some r:=orc_body n rfl rfl rfl Tryz.func38 h
@[simp] theorem e40:E.mode (40:Nat)=[]∧∀ r:Nat,E.kill (40:Nat) r=(lk kill40 r).getD []∧E.live (40:Nat) r=lk live40 r∧E.pairs (40:Nat) r=(lk pairs40 r).getD []∧E.keep (40:Nat) r=([6,10]:List Nat).contains r∧E.take (40:Nat) r=([1,2,3]:List Nat).contains r:=⟨rfl,fun _=>⟨rfl,rfl,rfl,rfl,rfl⟩⟩
theorem orc_40 {args r} (n) (h:evBody E (orc E) n (40:Nat) Tryz.f40 args=some r):fo 40 args=some r:=orc_body n rfl rfl rfl Tryz.func40 h
@[simp] theorem e43:E.mode (43:Nat)=[]∧∀ r:Nat,E.kill (43:Nat) r=(lk kill43 r).getD []∧E.live (43:Nat) r=lk live43 r∧E.pairs (43:Nat) r=(lk pairs43 r).getD []∧E.keep (43:Nat) r=false∧E.take (43:Nat) r=false:=⟨rfl,fun _=>⟨rfl,rfl,rfl,rfl,rfl⟩⟩
theorem orc_43 {args r} (n) (h:evBody E (orc E) n (43:Nat) Tryz.f43 args=some r):fo 43 args=some r:=orc_body n rfl rfl rfl Tryz.func43 h
@[simp] theorem e44:E.mode (44:Nat)=[.L,.B]∧∀ r:Nat,E.kill (44:Nat) r=(lk kill44 r).getD []∧E.live (44:Nat) r=lk live44 r∧E.pairs (44:Nat) r=(lk pairs44 r).getD []∧E.keep (44:Nat) r=false∧E.take (44:Nat) r=false:=⟨rfl,fun _=>⟨rfl,rfl,rfl,rfl,rfl⟩⟩
theorem orc_44 {args r} (n) (h:evBodyB E (orc E) n (44:Nat) Tryz.f44 args=some r):fo 44 args=some r:=orc_bodyB n rfl rfl rfl Tryz.func44 h
@[simp] theorem e55:E.mode (55:Nat)=[]∧∀ r:Nat,E.kill (55:Nat) r=(lk kill55 r).getD []∧E.live (55:Nat) r=lk live55 r∧E.pairs (55:Nat) r=(lk pairs55 r).getD []∧E.keep (55:Nat) r=false∧E.take (55:Nat) r=false:=⟨rfl,fun _=>⟨rfl,rfl,rfl,rfl,rfl⟩⟩
theorem orc_55 {args r} (n) (h:evBody E (orc E) n (55:Nat) Tryz.f55 args=some r):fo 55 args=some r:=orc_body n rfl rfl rfl Tryz.func55 h
@[simp] theorem e56:E.mode (56:Nat)=[]∧∀ r:Nat,E.kill (56:Nat) r=(lk kill56 r).getD []∧E.live (56:Nat) r=lk live56 r∧E.pairs (56:Nat) r=(lk pairs56 r).getD []∧E.keep (56:Nat) r=([5,9,11,14]:List Nat).contains r∧E.take (56:Nat) r=([1,2,4]:List Nat).contains r:=⟨rfl,fun _=>⟨rfl,rfl,rfl,rfl,rfl⟩⟩
theorem orc_56 {args r} (n) (h:evBody E (orc E) n (56:Nat) Tryz.f56 args=some r):fo 56 args=some r:=orc_body n rfl rfl rfl Tryz.func56 h
@[simp] theorem e57:E.mode (57:Nat)=[]∧∀ r:Nat,E.kill (57:Nat) r=(lk kill57 r).getD []∧E.live (57:Nat) r=lk live57 r∧E.pairs (57:Nat) r=(lk pairs57 r).getD []∧E.keep (57:Nat) r=([6,10]:List Nat).contains r∧E.take (57:Nat) r=([1,2,3]:List Nat).contains r:=⟨rfl,fun _=>⟨rfl,rfl,rfl,rfl,rfl⟩⟩
theorem orc_57 {args r} (n) (h:evBody E (orc E) n (57:Nat) Tryz.f57 args=some r):fo 57 args=some r:=orc_body n rfl rfl rfl Tryz.func57 h
@[simp] theorem e58:E.mode (58:Nat)=[]∧∀ r:Nat,E.kill (58:Nat) r=(lk kill58 r).getD []∧E.live (58:Nat) r=lk live58 r∧E.pairs (58:Nat) r=(lk pairs58 r).getD []∧E.keep (58:Nat) r=([5,12,15]:List Nat).contains r∧E.take (58:Nat) r=([1,2]:List Nat).contains r:=⟨rfl,fun _=>⟨rfl,rfl,rfl,rfl,rfl⟩⟩
theorem orc_58 {args r} (n) (h:evBody E (orc E) n (58:Nat) Tryz.f58 args=some r):fo 58 args=some r:=orc_body n rfl rfl rfl Tryz.func58 h
@[simp] theorem e59:E.mode (59:Nat)=[]∧∀ r:Nat,E.kill (59:Nat) r=(lk kill59 r).getD []∧E.live (59:Nat) r=lk live59 r∧E.pairs (59:Nat) r=(lk pairs59 r).getD []∧E.keep (59:Nat) r=false∧E.take (59:Nat) r=false:=⟨rfl,fun _=>⟨rfl,rfl,rfl,rfl,rfl⟩⟩
theorem orc_59 {args r} (n) (h:evBody E (orc E) n (59:Nat) Tryz.f59 args=some r):fo 59 args=some r:=orc_body n rfl rfl rfl Tryz.func59 h
@[simp] theorem e60:E.mode (60:Nat)=[]∧∀ r:Nat,E.kill (60:Nat) r=(lk kill60 r).getD []∧E.live (60:Nat) r=lk live60 r∧E.pairs (60:Nat) r=(lk pairs60 r).getD []∧E.keep (60:Nat) r=false∧E.take (60:Nat) r=false:=⟨rfl,fun _=>⟨rfl,rfl,rfl,rfl,rfl⟩⟩
theorem orc_60 {args r} (n) (h:evBody E (orc E) n (60:Nat) Tryz.f60 args=some r):fo 60 args=some r:=orc_body n rfl rfl rfl Tryz.func60 h
@[simp] theorem e61:E.mode (61:Nat)=[.L,.B]∧∀ r:Nat,E.kill (61:Nat) r=(lk kill61 r).getD []∧E.live (61:Nat) r=lk live61 r∧E.pairs (61:Nat) r=(lk pairs61 r).getD []∧E.keep (61:Nat) r=false∧E.take (61:Nat) r=false:=⟨rfl,fun _=>⟨rfl,rfl,rfl,rfl,rfl⟩⟩
theorem orc_61 {args r} (n) (h:evBodyB E (orc E) n (61:Nat) Tryz.f61 args=some r):fo 61 args=some r:=orc_bodyB n rfl rfl rfl Tryz.func61 h
@[simp] theorem e62:E.mode (62:Nat)=[.L,.B]∧∀ r:Nat,E.kill (62:Nat) r=(lk kill62 r).getD []∧E.live (62:Nat) r=lk live62 r∧E.pairs (62:Nat) r=(lk pairs62 r).getD []∧E.keep (62:Nat) r=false∧E.take (62:Nat) r=false:=⟨rfl,fun _=>⟨rfl,rfl,rfl,rfl,rfl⟩⟩
theorem orc_62 {args r} (n) (h:evBodyB E (orc E) n (62:Nat) Tryz.f62 args=some r):fo 62 args=some r:=orc_bodyB n rfl rfl rfl Tryz.func62 h
@[simp] theorem e63:E.mode (63:Nat)=[]∧∀ r:Nat,E.kill (63:Nat) r=(lk kill63 r).getD []∧E.live (63:Nat) r=lk live63 r∧E.pairs (63:Nat) r=(lk pairs63 r).getD []∧E.keep (63:Nat) r=false∧E.take (63:Nat) r=false:=⟨rfl,fun _=>⟨rfl,rfl,rfl,rfl,rfl⟩⟩
theorem orc_63 {args r} (n) (h:evBody E (orc E) n (63:Nat) Tryz.f63 args=some r):fo 63 args=some r:=orc_body n rfl rfl rfl Tryz.func63 h
@[simp] theorem e68:E.mode (68:Nat)=[]∧∀ r:Nat,E.kill (68:Nat) r=(lk kill68 r).getD []∧E.live (68:Nat) r=lk live68 r∧E.pairs (68:Nat) r=(lk pairs68 r).getD []∧E.keep (68:Nat) r=false∧E.take (68:Nat) r=false:=⟨rfl,fun _=>⟨rfl,rfl,rfl,rfl,rfl⟩⟩
theorem orc_68 {args r} (n) (h:evBody E (orc E) n (68:Nat) Tryz.f68 args=some r):fo 68 args=some r:=orc_body n rfl rfl rfl Tryz.func68 h
@[simp] theorem e75:E.mode (75:Nat)=[]∧∀ r:Nat,E.kill (75:Nat) r=(lk kill75 r).getD []∧E.live (75:Nat) r=lk live75 r∧E.pairs (75:Nat) r=(lk pairs75 r).getD []∧E.keep (75:Nat) r=([18,22]:List Nat).contains r∧E.take (75:Nat) r=([1,2,3]:List Nat).contains r:=⟨rfl,fun _=>⟨rfl,rfl,rfl,rfl,rfl⟩⟩
theorem orc_75 {args r} (n) (h:evBody E (orc E) n (75:Nat) Tryz.f75 args=some r):fo 75 args=some r:=orc_body n rfl rfl rfl Tryz.func75 h
@[simp] theorem e78:E.mode (78:Nat)=[]∧∀ r:Nat,E.kill (78:Nat) r=(lk kill78 r).getD []∧E.live (78:Nat) r=lk live78 r∧E.pairs (78:Nat) r=(lk pairs78 r).getD []∧E.keep (78:Nat) r=false∧E.take (78:Nat) r=false:=⟨rfl,fun _=>⟨rfl,rfl,rfl,rfl,rfl⟩⟩
theorem orc_78 {args r} (n) (h:evBody E (orc E) n (78:Nat) Tryz.f78 args=some r):fo 78 args=some r:=orc_body n rfl rfl rfl Tryz.func78 h
@[simp] theorem e82:E.mode (82:Nat)=[]∧∀ r:Nat,E.kill (82:Nat) r=(lk kill82 r).getD []∧E.live (82:Nat) r=lk live82 r∧E.pairs (82:Nat) r=(lk pairs82 r).getD []∧E.keep (82:Nat) r=false∧E.take (82:Nat) r=false:=⟨rfl,fun _=>⟨rfl,rfl,rfl,rfl,rfl⟩⟩
theorem orc_82 {args r} (n) (h:evBody E (orc E) n (82:Nat) Tryz.f82 args=some r):fo 82 args=some r:=orc_body n rfl rfl rfl Tryz.func82 h
@[simp] theorem e83:E.mode (83:Nat)=[]∧∀ r:Nat,E.kill (83:Nat) r=(lk kill83 r).getD []∧E.live (83:Nat) r=lk live83 r∧E.pairs (83:Nat) r=(lk pairs83 r).getD []∧E.keep (83:Nat) r=false∧E.take (83:Nat) r=false:=⟨rfl,fun _=>⟨rfl,rfl,rfl,rfl,rfl⟩⟩
theorem orc_83 {args r} (n) (h:evBody E (orc E) n (83:Nat) Tryz.f83 args=some r):fo 83 args=some r:=orc_body n rfl rfl rfl Tryz.func83 h
@[simp] theorem e85:E.mode (85:Nat)=[]∧∀ r:Nat,E.kill (85:Nat) r=(lk kill85 r).getD []∧E.live (85:Nat) r=lk live85 r∧E.pairs (85:Nat) r=(lk pairs85 r).getD []∧E.keep (85:Nat) r=false∧E.take (85:Nat) r=false:=⟨rfl,fun _=>⟨rfl,rfl,rfl,rfl,rfl⟩⟩
theorem orc_85 {args r} (n) (h:evBody E (orc E) n (85:Nat) Tryz.f85 args=some r):fo 85 args=some r:=orc_body n rfl rfl rfl Tryz.func85 h
@[simp] theorem e86:E.mode (86:Nat)=[.L,.P]∧∀ r:Nat,E.kill (86:Nat) r=(lk kill86 r).getD []∧E.live (86:Nat) r=lk live86 r∧E.pairs (86:Nat) r=(lk pairs86 r).getD []∧E.keep (86:Nat) r=false∧E.take (86:Nat) r=false:=⟨rfl,fun _=>⟨rfl,rfl,rfl,rfl,rfl⟩⟩
theorem orc_86 {args r} (n) (h:evBody E (orc E) n (86:Nat) Tryz.f86 args=some r):fo 86 args=some r:=orc_body n rfl rfl rfl Tryz.func86 h
@[simp] theorem e89:E.mode (89:Nat)=[]∧∀ r:Nat,E.kill (89:Nat) r=(lk kill89 r).getD []∧E.live (89:Nat) r=lk live89 r∧E.pairs (89:Nat) r=(lk pairs89 r).getD []∧E.keep (89:Nat) r=false∧E.take (89:Nat) r=false:=⟨rfl,fun _=>⟨rfl,rfl,rfl,rfl,rfl⟩⟩
theorem orc_89 {args r} (n) (h:evBody E (orc E) n (89:Nat) Tryz.f89 args=some r):fo 89 args=some r:=orc_body n rfl rfl rfl Tryz.func89 h
@[simp] theorem e92:E.mode (92:Nat)=[]∧∀ r:Nat,E.kill (92:Nat) r=(lk kill92 r).getD []∧E.live (92:Nat) r=lk live92 r∧E.pairs (92:Nat) r=(lk pairs92 r).getD []∧E.keep (92:Nat) r=false∧E.take (92:Nat) r=false:=⟨rfl,fun _=>⟨rfl,rfl,rfl,rfl,rfl⟩⟩
theorem orc_92 {args r} (n) (h:evBody E (orc E) n (92:Nat) Tryz.f92 args=some r):fo 92 args=some r:=orc_body n rfl rfl rfl Tryz.func92 h
@[simp] theorem e96:E.mode (96:Nat)=[]∧∀ r:Nat,E.kill (96:Nat) r=(lk kill96 r).getD []∧E.live (96:Nat) r=lk live96 r∧E.pairs (96:Nat) r=(lk pairs96 r).getD []∧E.keep (96:Nat) r=([5,9]:List Nat).contains r∧E.take (96:Nat) r=([1,2]:List Nat).contains r:=⟨rfl,fun _=>⟨rfl,rfl,rfl,rfl,rfl⟩⟩
theorem orc_96 {args r} (n) (h:evBody E (orc E) n (96:Nat) Tryz.f96 args=some r):fo 96 args=some r:=orc_body n rfl rfl rfl Tryz.func96 h
@[simp] theorem e98:E.mode (98:Nat)=[]∧∀ r:Nat,E.kill (98:Nat) r=(lk kill98 r).getD []∧E.live (98:Nat) r=lk live98 r∧E.pairs (98:Nat) r=(lk pairs98 r).getD []∧E.keep (98:Nat) r=([6,10,20]:List Nat).contains r∧E.take (98:Nat) r=false:=⟨rfl,fun _=>⟨rfl,rfl,rfl,rfl,rfl⟩⟩
theorem orc_98 {args r} (n) (h:evBody E (orc E) n (98:Nat) Tryz.f98 args=some r):fo 98 args=some r:=orc_body n rfl rfl rfl Tryz.func98 h
@[simp] theorem e100:E.mode (100:Nat)=[]∧∀ r:Nat,E.kill (100:Nat) r=(lk kill100 r).getD []∧E.live (100:Nat) r=lk live100 r∧E.pairs (100:Nat) r=(lk pairs100 r).getD []∧E.keep (100:Nat) r=([5,8]:List Nat).contains r∧E.take (100:Nat) r=([1,2]:List Nat).contains r:=⟨rfl,fun _=>⟨rfl,rfl,rfl,rfl,rfl⟩⟩
theorem orc_100 {args r} (n) (h:evBody E (orc E) n (100:Nat) Tryz.f100 args=some r):fo 100 args=some r:=orc_body n rfl rfl rfl Tryz.func100 h
@[simp] theorem e102:E.mode (102:Nat)=[]∧∀ r:Nat,E.kill (102:Nat) r=(lk kill102 r).getD []∧E.live (102:Nat) r=lk live102 r∧E.pairs (102:Nat) r=(lk pairs102 r).getD []∧E.keep (102:Nat) r=false∧E.take (102:Nat) r=false:=⟨rfl,fun _=>⟨rfl,rfl,rfl,rfl,rfl⟩⟩
theorem orc_102 {args r} (n) (h:evBody E (orc E) n (102:Nat) Tryz.f102 args=some r):fo 102 args=some r:=orc_body n rfl rfl rfl Tryz.func102 h
@[simp] theorem e103:E.mode (103:Nat)=[.L,.P]∧∀ r:Nat,E.kill (103:Nat) r=(lk kill103 r).getD []∧E.live (103:Nat) r=lk live103 r∧E.pairs (103:Nat) r=(lk pairs103 r).getD []∧E.keep (103:Nat) r=false∧E.take (103:Nat) r=false:=⟨rfl,fun _=>⟨rfl,rfl,rfl,rfl,rfl⟩⟩
theorem orc_103 {args r} (n) (h:evBody E (orc E) n (103:Nat) Tryz.f103 args=some r):fo 103 args=some r:=orc_body n rfl rfl rfl Tryz.func103 h
@[simp] theorem e104:E.mode (104:Nat)=[]∧∀ r:Nat,E.kill (104:Nat) r=(lk kill104 r).getD []∧E.live (104:Nat) r=lk live104 r∧E.pairs (104:Nat) r=(lk pairs104 r).getD []∧E.keep (104:Nat) r=false∧E.take (104:Nat) r=false:=⟨rfl,fun _=>⟨rfl,rfl,rfl,rfl,rfl⟩⟩
theorem orc_104 {args r} (n) (h:evBody E (orc E) n (104:Nat) Tryz.f104 args=some r):fo 104 args=some r:=orc_body n rfl rfl rfl Tryz.func104 h
@[simp] theorem e105:E.mode (105:Nat)=[]∧∀ r:Nat,E.kill (105:Nat) r=(lk kill105 r).getD []∧E.live (105:Nat) r=lk live105 r∧E.pairs (105:Nat) r=(lk pairs105 r).getD []∧E.keep (105:Nat) r=false∧E.take (105:Nat) r=false:=⟨rfl,fun _=>⟨rfl,rfl,rfl,rfl,rfl⟩⟩
theorem orc_105 {args r} (n) (h:evBody E (orc E) n (105:Nat) Tryz.f105 args=some r):fo 105 args=some r:=orc_body n rfl rfl rfl Tryz.func105 h
@[simp] theorem e106:E.mode (106:Nat)=[]∧∀ r:Nat,E.kill (106:Nat) r=(lk kill106 r).getD []∧E.live (106:Nat) r=lk live106 r∧E.pairs (106:Nat) r=(lk pairs106 r).getD []∧E.keep (106:Nat) r=false∧E.take (106:Nat) r=false:=⟨rfl,fun _=>⟨rfl,rfl,rfl,rfl,rfl⟩⟩
theorem orc_106 {args r} (n) (h:evBody E (orc E) n (106:Nat) Tryz.f106 args=some r):fo 106 args=some r:=orc_body n rfl rfl rfl Tryz.func106 h
@[simp] theorem e107:E.mode (107:Nat)=[]∧∀ r:Nat,E.kill (107:Nat) r=(lk kill107 r).getD []∧E.live (107:Nat) r=lk live107 r∧E.pairs (107:Nat) r=(lk pairs107 r).getD []∧E.keep (107:Nat) r=false∧E.take (107:Nat) r=false:=⟨rfl,fun _=>⟨rfl,rfl,rfl,rfl,rfl⟩⟩
theorem orc_107 {args r} (n) (h:evBody E (orc E) n (107:Nat) Tryz.f107 args=some r):fo 107 args=some r:=orc_body n rfl rfl rfl Tryz.func107 h
@[simp] theorem e109:E.mode (109:Nat)=[]∧∀ r:Nat,E.kill (109:Nat) r=(lk kill109 r).getD []∧E.live (109:Nat) r=lk live109 r∧E.pairs (109:Nat) r=(lk pairs109 r).getD []∧E.keep (109:Nat) r=false∧E.take (109:Nat) r=false:=⟨rfl,fun _=>⟨rfl,rfl,rfl,rfl,rfl⟩⟩
theorem orc_109 {args r} (n) (h:evBody E (orc E) n (109:Nat) Tryz.f109 args=some r):fo 109 args=some r:=orc_body n rfl rfl rfl Tryz.func109 h
@[simp] theorem e110:E.mode (110:Nat)=[]∧∀ r:Nat,E.kill (110:Nat) r=(lk kill110 r).getD []∧E.live (110:Nat) r=lk live110 r∧E.pairs (110:Nat) r=(lk pairs110 r).getD []∧E.keep (110:Nat) r=([7,14,32,35]:List Nat).contains r∧E.take (110:Nat) r=([1,2,3]:List Nat).contains r:=⟨rfl,fun _=>⟨rfl,rfl,rfl,rfl,rfl⟩⟩
theorem orc_110 {args r} (n) (h:evBody E (orc E) n (110:Nat) Tryz.f110 args=some r):fo 110 args=some r:=orc_body n rfl rfl rfl Tryz.func110 h
@[simp] theorem e111:E.mode (111:Nat)=[]∧∀ r:Nat,E.kill (111:Nat) r=(lk kill111 r).getD []∧E.live (111:Nat) r=lk live111 r∧E.pairs (111:Nat) r=(lk pairs111 r).getD []∧E.keep (111:Nat) r=([6,10,20]:List Nat).contains r∧E.take (111:Nat) r=false:=⟨rfl,fun _=>⟨rfl,rfl,rfl,rfl,rfl⟩⟩
theorem orc_111 {args r} (n) (h:evBody E (orc E) n (111:Nat) Tryz.f111 args=some r):fo 111 args=some r:=orc_body n rfl rfl rfl Tryz.func111 h
@[simp] theorem e112:E.mode (112:Nat)=[]∧∀ r:Nat,E.kill (112:Nat) r=(lk kill112 r).getD []∧E.live (112:Nat) r=lk live112 r∧E.pairs (112:Nat) r=(lk pairs112 r).getD []∧E.keep (112:Nat) r=([6,10,20]:List Nat).contains r∧E.take (112:Nat) r=false:=⟨rfl,fun _=>⟨rfl,rfl,rfl,rfl,rfl⟩⟩
theorem orc_112 {args r} (n) (h:evBody E (orc E) n (112:Nat) Tryz.f112 args=some r):fo 112 args=some r:=orc_body n rfl rfl rfl Tryz.func112 h
@[simp] theorem e113:E.mode (113:Nat)=[]∧∀ r:Nat,E.kill (113:Nat) r=(lk kill113 r).getD []∧E.live (113:Nat) r=lk live113 r∧E.pairs (113:Nat) r=(lk pairs113 r).getD []∧E.keep (113:Nat) r=false∧E.take (113:Nat) r=false:=⟨rfl,fun _=>⟨rfl,rfl,rfl,rfl,rfl⟩⟩
theorem orc_113 {args r} (n) (h:evBody E (orc E) n (113:Nat) Tryz.f113 args=some r):fo 113 args=some r:=orc_body n rfl rfl rfl Tryz.func113 h
@[simp] theorem e114:E.mode (114:Nat)=[]∧∀ r:Nat,E.kill (114:Nat) r=(lk kill114 r).getD []∧E.live (114:Nat) r=lk live114 r∧E.pairs (114:Nat) r=(lk pairs114 r).getD []∧E.keep (114:Nat) r=false∧E.take (114:Nat) r=false:=⟨rfl,fun _=>⟨rfl,rfl,rfl,rfl,rfl⟩⟩
theorem orc_114 {args r} (n) (h:evBody E (orc E) n (114:Nat) Tryz.f114 args=some r):fo 114 args=some r:=orc_body n rfl rfl rfl Tryz.func114 h
@[simp] theorem e115:E.mode (115:Nat)=[]∧∀ r:Nat,E.kill (115:Nat) r=(lk kill115 r).getD []∧E.live (115:Nat) r=lk live115 r∧E.pairs (115:Nat) r=(lk pairs115 r).getD []∧E.keep (115:Nat) r=false∧E.take (115:Nat) r=false:=⟨rfl,fun _=>⟨rfl,rfl,rfl,rfl,rfl⟩⟩
theorem orc_115 {args r} (n) (h:evBody E (orc E) n (115:Nat) Tryz.f115 args=some r):fo 115 args=some r:=orc_body n rfl rfl rfl Tryz.func115 h
@[simp] theorem e116:E.mode (116:Nat)=[]∧∀ r:Nat,E.kill (116:Nat) r=(lk kill116 r).getD []∧E.live (116:Nat) r=lk live116 r∧E.pairs (116:Nat) r=(lk pairs116 r).getD []∧E.keep (116:Nat) r=([8,14,25,28]:List Nat).contains r∧E.take (116:Nat) r=([1,2,3,5]:List Nat).contains r:=⟨rfl,fun _=>⟨rfl,rfl,rfl,rfl,rfl⟩⟩
theorem orc_116 {args r} (n) (h:evBody E (orc E) n (116:Nat) Tryz.f116 args=some r):fo 116 args=some r:=orc_body n rfl rfl rfl Tryz.func116 h
@[simp] theorem e117:E.mode (117:Nat)=[]∧∀ r:Nat,E.kill (117:Nat) r=(lk kill117 r).getD []∧E.live (117:Nat) r=lk live117 r∧E.pairs (117:Nat) r=(lk pairs117 r).getD []∧E.keep (117:Nat) r=false∧E.take (117:Nat) r=false:=⟨rfl,fun _=>⟨rfl,rfl,rfl,rfl,rfl⟩⟩
theorem orc_117 {args r} (n) (h:evBody E (orc E) n (117:Nat) Tryz.f117 args=some r):fo 117 args=some r:=orc_body n rfl rfl rfl Tryz.func117 h
@[simp] theorem e118:E.mode (118:Nat)=[]∧∀ r:Nat,E.kill (118:Nat) r=(lk kill118 r).getD []∧E.live (118:Nat) r=lk live118 r∧E.pairs (118:Nat) r=(lk pairs118 r).getD []∧E.keep (118:Nat) r=false∧E.take (118:Nat) r=false:=⟨rfl,fun _=>⟨rfl,rfl,rfl,rfl,rfl⟩⟩
theorem orc_118 {args r} (n) (h:evBody E (orc E) n (118:Nat) Tryz.f118 args=some r):fo 118 args=some r:=orc_body n rfl rfl rfl Tryz.func118 h
@[simp] theorem e119:E.mode (119:Nat)=[.L,.P]∧∀ r:Nat,E.kill (119:Nat) r=(lk kill119 r).getD []∧E.live (119:Nat) r=lk live119 r∧E.pairs (119:Nat) r=(lk pairs119 r).getD []∧E.keep (119:Nat) r=false∧E.take (119:Nat) r=false:=⟨rfl,fun _=>⟨rfl,rfl,rfl,rfl,rfl⟩⟩
theorem orc_119 {args r} (n) (h:evBody E (orc E) n (119:Nat) Tryz.f119 args=some r):fo 119 args=some r:=orc_body n rfl rfl rfl Tryz.func119 h
@[simp] theorem e120:E.mode (120:Nat)=[.L,.P]∧∀ r:Nat,E.kill (120:Nat) r=(lk kill120 r).getD []∧E.live (120:Nat) r=lk live120 r∧E.pairs (120:Nat) r=(lk pairs120 r).getD []∧E.keep (120:Nat) r=false∧E.take (120:Nat) r=false:=⟨rfl,fun _=>⟨rfl,rfl,rfl,rfl,rfl⟩⟩
theorem orc_120 {args r} (n) (h:evBody E (orc E) n (120:Nat) Tryz.f120 args=some r):fo 120 args=some r:=orc_body n rfl rfl rfl Tryz.func120 h
@[simp] theorem e121:E.mode (121:Nat)=[]∧∀ r:Nat,E.kill (121:Nat) r=(lk kill121 r).getD []∧E.live (121:Nat) r=lk live121 r∧E.pairs (121:Nat) r=(lk pairs121 r).getD []∧E.keep (121:Nat) r=false∧E.take (121:Nat) r=false:=⟨rfl,fun _=>⟨rfl,rfl,rfl,rfl,rfl⟩⟩
theorem orc_121 {args r} (n) (h:evBody E (orc E) n (121:Nat) Tryz.f121 args=some r):fo 121 args=some r:=orc_body n rfl rfl rfl Tryz.func121 h
@[simp] theorem e127:E.mode (127:Nat)=[]∧∀ r:Nat,E.kill (127:Nat) r=(lk kill127 r).getD []∧E.live (127:Nat) r=lk live127 r∧E.pairs (127:Nat) r=(lk pairs127 r).getD []∧E.keep (127:Nat) r=false∧E.take (127:Nat) r=false:=⟨rfl,fun _=>⟨rfl,rfl,rfl,rfl,rfl⟩⟩
theorem orc_127 {args r} (n) (h:evBody E (orc E) n (127:Nat) Tryz.f127 args=some r):fo 127 args=some r:=orc_body n rfl rfl rfl Tryz.func127 h
@[simp] theorem e129:E.mode (129:Nat)=[]∧∀ r:Nat,E.kill (129:Nat) r=(lk kill129 r).getD []∧E.live (129:Nat) r=lk live129 r∧E.pairs (129:Nat) r=(lk pairs129 r).getD []∧E.keep (129:Nat) r=false∧E.take (129:Nat) r=false:=⟨rfl,fun _=>⟨rfl,rfl,rfl,rfl,rfl⟩⟩
theorem orc_129 {args r} (n) (h:evBody E (orc E) n (129:Nat) Tryz.f129 args=some r):fo 129 args=some r:=orc_body n rfl rfl rfl Tryz.func129 h
@[simp] theorem e131:E.mode (131:Nat)=[]∧∀ r:Nat,E.kill (131:Nat) r=(lk kill131 r).getD []∧E.live (131:Nat) r=lk live131 r∧E.pairs (131:Nat) r=(lk pairs131 r).getD []∧E.keep (131:Nat) r=false∧E.take (131:Nat) r=false:=⟨rfl,fun _=>⟨rfl,rfl,rfl,rfl,rfl⟩⟩
theorem orc_131 {args r} (n) (h:evBody E (orc E) n (131:Nat) Tryz.f131 args=some r):fo 131 args=some r:=orc_body n rfl rfl rfl Tryz.func131 h
@[simp] theorem e133:E.mode (133:Nat)=[]∧∀ r:Nat,E.kill (133:Nat) r=(lk kill133 r).getD []∧E.live (133:Nat) r=lk live133 r∧E.pairs (133:Nat) r=(lk pairs133 r).getD []∧E.keep (133:Nat) r=false∧E.take (133:Nat) r=false:=⟨rfl,fun _=>⟨rfl,rfl,rfl,rfl,rfl⟩⟩
theorem orc_133 {args r} (n) (h:evBody E (orc E) n (133:Nat) Tryz.f133 args=some r):fo 133 args=some r:=orc_body n rfl rfl rfl Tryz.func133 h
@[simp] theorem e137:E.mode (137:Nat)=[]∧∀ r:Nat,E.kill (137:Nat) r=(lk kill137 r).getD []∧E.live (137:Nat) r=lk live137 r∧E.pairs (137:Nat) r=(lk pairs137 r).getD []∧E.keep (137:Nat) r=false∧E.take (137:Nat) r=false:=⟨rfl,fun _=>⟨rfl,rfl,rfl,rfl,rfl⟩⟩
theorem orc_137 {args r} (n) (h:evBody E (orc E) n (137:Nat) Tryz.f137 args=some r):fo 137 args=some r:=orc_body n rfl rfl rfl Tryz.func137 h
@[simp] theorem e138:E.mode (138:Nat)=[]∧∀ r:Nat,E.kill (138:Nat) r=(lk kill138 r).getD []∧E.live (138:Nat) r=lk live138 r∧E.pairs (138:Nat) r=(lk pairs138 r).getD []∧E.keep (138:Nat) r=false∧E.take (138:Nat) r=false:=⟨rfl,fun _=>⟨rfl,rfl,rfl,rfl,rfl⟩⟩
theorem orc_138 {args r} (n) (h:evBody E (orc E) n (138:Nat) Tryz.f138 args=some r):fo 138 args=some r:=orc_body n rfl rfl rfl Tryz.func138 h
@[simp] theorem e139:E.mode (139:Nat)=[]∧∀ r:Nat,E.kill (139:Nat) r=(lk kill139 r).getD []∧E.live (139:Nat) r=lk live139 r∧E.pairs (139:Nat) r=(lk pairs139 r).getD []∧E.keep (139:Nat) r=false∧E.take (139:Nat) r=([2]:List Nat).contains r:=⟨rfl,fun _=>⟨rfl,rfl,rfl,rfl,rfl⟩⟩
theorem orc_139 {args r} (n) (h:evBody E (orc E) n (139:Nat) Tryz.f139 args=some r):fo 139 args=some r:=orc_body n rfl rfl rfl Tryz.func139 h
@[simp] theorem e140:E.mode (140:Nat)=[]∧∀ r:Nat,E.kill (140:Nat) r=(lk kill140 r).getD []∧E.live (140:Nat) r=lk live140 r∧E.pairs (140:Nat) r=(lk pairs140 r).getD []∧E.keep (140:Nat) r=([5,10,15]:List Nat).contains r∧E.take (140:Nat) r=([1,2]:List Nat).contains r:=⟨rfl,fun _=>⟨rfl,rfl,rfl,rfl,rfl⟩⟩
theorem orc_140 {args r} (n) (h:evBody E (orc E) n (140:Nat) Tryz.f140 args=some r):fo 140 args=some r:=orc_body n rfl rfl rfl Tryz.func140 h
@[simp] theorem e141:E.mode (141:Nat)=[]∧∀ r:Nat,E.kill (141:Nat) r=(lk kill141 r).getD []∧E.live (141:Nat) r=lk live141 r∧E.pairs (141:Nat) r=(lk pairs141 r).getD []∧E.keep (141:Nat) r=([4,12,15,16]:List Nat).contains r∧E.take (141:Nat) r=([1,2]:List Nat).contains r:=⟨rfl,fun _=>⟨rfl,rfl,rfl,rfl,rfl⟩⟩
theorem orc_141 {args r} (n) (h:evBody E (orc E) n (141:Nat) Tryz.f141 args=some r):fo 141 args=some r:=orc_body n rfl rfl rfl Tryz.func141 h
@[simp] theorem e142:E.mode (142:Nat)=[]∧∀ r:Nat,E.kill (142:Nat) r=(lk kill142 r).getD []∧E.live (142:Nat) r=lk live142 r∧E.pairs (142:Nat) r=(lk pairs142 r).getD []∧E.keep (142:Nat) r=([6,10]:List Nat).contains r∧E.take (142:Nat) r=([1,2,3]:List Nat).contains r:=⟨rfl,fun _=>⟨rfl,rfl,rfl,rfl,rfl⟩⟩
theorem orc_142 {args r} (n) (h:evBody E (orc E) n (142:Nat) Tryz.f142 args=some r):fo 142 args=some r:=orc_body n rfl rfl rfl Tryz.func142 h
@[simp] theorem e143:E.mode (143:Nat)=[]∧∀ r:Nat,E.kill (143:Nat) r=(lk kill143 r).getD []∧E.live (143:Nat) r=lk live143 r∧E.pairs (143:Nat) r=(lk pairs143 r).getD []∧E.keep (143:Nat) r=false∧E.take (143:Nat) r=false:=⟨rfl,fun _=>⟨rfl,rfl,rfl,rfl,rfl⟩⟩
theorem orc_143 {args r} (n) (h:evBody E (orc E) n (143:Nat) Tryz.f143 args=some r):fo 143 args=some r:=orc_body n rfl rfl rfl Tryz.func143 h
@[simp] theorem e144:E.mode (144:Nat)=[]∧∀ r:Nat,E.kill (144:Nat) r=(lk kill144 r).getD []∧E.live (144:Nat) r=lk live144 r∧E.pairs (144:Nat) r=(lk pairs144 r).getD []∧E.keep (144:Nat) r=([5,15,17]:List Nat).contains r∧E.take (144:Nat) r=([1,2]:List Nat).contains r:=⟨rfl,fun _=>⟨rfl,rfl,rfl,rfl,rfl⟩⟩
theorem orc_144 {args r} (n) (h:evBody E (orc E) n (144:Nat) Tryz.f144 args=some r):fo 144 args=some r:=orc_body n rfl rfl rfl Tryz.func144 h
@[simp] theorem e145:E.mode (145:Nat)=[]∧∀ r:Nat,E.kill (145:Nat) r=(lk kill145 r).getD []∧E.live (145:Nat) r=lk live145 r∧E.pairs (145:Nat) r=(lk pairs145 r).getD []∧E.keep (145:Nat) r=false∧E.take (145:Nat) r=false:=⟨rfl,fun _=>⟨rfl,rfl,rfl,rfl,rfl⟩⟩
theorem orc_145 {args r} (n) (h:evBody E (orc E) n (145:Nat) Tryz.f145 args=some r):fo 145 args=some r:=orc_body n rfl rfl rfl Tryz.func145 h
@[simp] theorem e146:E.mode (146:Nat)=[.L,.B]∧∀ r:Nat,E.kill (146:Nat) r=(lk kill146 r).getD []∧E.live (146:Nat) r=lk live146 r∧E.pairs (146:Nat) r=(lk pairs146 r).getD []∧E.keep (146:Nat) r=false∧E.take (146:Nat) r=false:=⟨rfl,fun _=>⟨rfl,rfl,rfl,rfl,rfl⟩⟩
theorem orc_146 {args r} (n) (h:evBodyB E (orc E) n (146:Nat) Tryz.f146 args=some r):fo 146 args=some r:=orc_bodyB n rfl rfl rfl Tryz.func146 h
@[simp] theorem e147:E.mode (147:Nat)=[]∧∀ r:Nat,E.kill (147:Nat) r=(lk kill147 r).getD []∧E.live (147:Nat) r=lk live147 r∧E.pairs (147:Nat) r=(lk pairs147 r).getD []∧E.keep (147:Nat) r=false∧E.take (147:Nat) r=false:=⟨rfl,fun _=>⟨rfl,rfl,rfl,rfl,rfl⟩⟩
theorem orc_147 {args r} (n) (h:evBody E (orc E) n (147:Nat) Tryz.f147 args=some r):fo 147 args=some r:=orc_body n rfl rfl rfl Tryz.func147 h
@[simp] theorem e149:E.mode (149:Nat)=[]∧∀ r:Nat,E.kill (149:Nat) r=(lk kill149 r).getD []∧E.live (149:Nat) r=lk live149 r∧E.pairs (149:Nat) r=(lk pairs149 r).getD []∧E.keep (149:Nat) r=false∧E.take (149:Nat) r=false:=⟨rfl,fun _=>⟨rfl,rfl,rfl,rfl,rfl⟩⟩
@[simp] theorem e151:E.mode (151:Nat)=[]∧∀ r:Nat,E.kill (151:Nat) r=(lk kill151 r).getD []∧E.live (151:Nat) r=lk live151 r∧E.pairs (151:Nat) r=(lk pairs151 r).getD []∧E.keep (151:Nat) r=false∧E.take (151:Nat) r=false:=⟨rfl,fun _=>⟨rfl,rfl,rfl,rfl,rfl⟩⟩
theorem orc_151 {args r} (n) (h:evBody E (orc E) n (151:Nat) Tryz.f151 args=some r):fo 151 args=some r:=orc_body n rfl rfl rfl Tryz.func151 h
@[simp] theorem e153:E.mode (153:Nat)=[]∧∀ r:Nat,E.kill (153:Nat) r=(lk kill153 r).getD []∧E.live (153:Nat) r=lk live153 r∧E.pairs (153:Nat) r=(lk pairs153 r).getD []∧E.keep (153:Nat) r=false∧E.take (153:Nat) r=false:=⟨rfl,fun _=>⟨rfl,rfl,rfl,rfl,rfl⟩⟩
theorem orc_153 {args r} (n) (h:evBody E (orc E) n (153:Nat) Tryz.f153 args=some r):fo 153 args=some r:=orc_body n rfl rfl rfl Tryz.func153 h
@[simp] theorem e155:E.mode (155:Nat)=[]∧∀ r:Nat,E.kill (155:Nat) r=(lk kill155 r).getD []∧E.live (155:Nat) r=lk live155 r∧E.pairs (155:Nat) r=(lk pairs155 r).getD []∧E.keep (155:Nat) r=false∧E.take (155:Nat) r=false:=⟨rfl,fun _=>⟨rfl,rfl,rfl,rfl,rfl⟩⟩
theorem orc_155 {args r} (n) (h:evBody E (orc E) n (155:Nat) Tryz.f155 args=some r):fo 155 args=some r:=orc_body n rfl rfl rfl Tryz.func155 h
@[simp] theorem e156:E.mode (156:Nat)=[]∧∀ r:Nat,E.kill (156:Nat) r=(lk kill156 r).getD []∧E.live (156:Nat) r=lk live156 r∧E.pairs (156:Nat) r=(lk pairs156 r).getD []∧E.keep (156:Nat) r=false∧E.take (156:Nat) r=false:=⟨rfl,fun _=>⟨rfl,rfl,rfl,rfl,rfl⟩⟩
theorem orc_156 {args r} (n) (h:evBody E (orc E) n (156:Nat) Tryz.f156 args=some r):fo 156 args=some r:=orc_body n rfl rfl rfl Tryz.func156 h
@[simp] theorem e157:E.mode (157:Nat)=[]∧∀ r:Nat,E.kill (157:Nat) r=(lk kill157 r).getD []∧E.live (157:Nat) r=lk live157 r∧E.pairs (157:Nat) r=(lk pairs157 r).getD []∧E.keep (157:Nat) r=false∧E.take (157:Nat) r=false:=⟨rfl,fun _=>⟨rfl,rfl,rfl,rfl,rfl⟩⟩
theorem orc_157 {args r} (n) (h:evBody E (orc E) n (157:Nat) Tryz.f157 args=some r):fo 157 args=some r:=orc_body n rfl rfl rfl Tryz.func157 h
@[simp] theorem e159:E.mode (159:Nat)=[]∧∀ r:Nat,E.kill (159:Nat) r=(lk kill159 r).getD []∧E.live (159:Nat) r=lk live159 r∧E.pairs (159:Nat) r=(lk pairs159 r).getD []∧E.keep (159:Nat) r=false∧E.take (159:Nat) r=false:=⟨rfl,fun _=>⟨rfl,rfl,rfl,rfl,rfl⟩⟩
theorem orc_159 {args r} (n) (h:evBody E (orc E) n (159:Nat) Tryz.f159 args=some r):fo 159 args=some r:=orc_body n rfl rfl rfl Tryz.func159 h
@[simp] theorem e160:E.mode (160:Nat)=[]∧∀ r:Nat,E.kill (160:Nat) r=(lk kill160 r).getD []∧E.live (160:Nat) r=lk live160 r∧E.pairs (160:Nat) r=(lk pairs160 r).getD []∧E.keep (160:Nat) r=false∧E.take (160:Nat) r=false:=⟨rfl,fun _=>⟨rfl,rfl,rfl,rfl,rfl⟩⟩
theorem orc_160 {args r} (n) (h:evBody E (orc E) n (160:Nat) Tryz.f160 args=some r):fo 160 args=some r:=orc_body n rfl rfl rfl Tryz.func160 h
@[simp] theorem e163:E.mode (163:Nat)=[]∧∀ r:Nat,E.kill (163:Nat) r=(lk kill163 r).getD []∧E.live (163:Nat) r=lk live163 r∧E.pairs (163:Nat) r=(lk pairs163 r).getD []∧E.keep (163:Nat) r=false∧E.take (163:Nat) r=false:=⟨rfl,fun _=>⟨rfl,rfl,rfl,rfl,rfl⟩⟩
theorem orc_163 {args r} (n) (h:evBody E (orc E) n (163:Nat) Tryz.f163 args=some r):fo 163 args=some r:=orc_body n rfl rfl rfl Tryz.func163 h
@[simp] theorem e164:E.mode (164:Nat)=[]∧∀ r:Nat,E.kill (164:Nat) r=(lk kill164 r).getD []∧E.live (164:Nat) r=lk live164 r∧E.pairs (164:Nat) r=(lk pairs164 r).getD []∧E.keep (164:Nat) r=([9,12,15]:List Nat).contains r∧E.take (164:Nat) r=([1,2]:List Nat).contains r:=⟨rfl,fun _=>⟨rfl,rfl,rfl,rfl,rfl⟩⟩
theorem orc_164 {args r} (n) (h:evBody E (orc E) n (164:Nat) Tryz.f164 args=some r):fo 164 args=some r:=orc_body n rfl rfl rfl Tryz.func164 h
@[simp] theorem e166:E.mode (166:Nat)=[]∧∀ r:Nat,E.kill (166:Nat) r=(lk kill166 r).getD []∧E.live (166:Nat) r=lk live166 r∧E.pairs (166:Nat) r=(lk pairs166 r).getD []∧E.keep (166:Nat) r=([6,10,20]:List Nat).contains r∧E.take (166:Nat) r=false:=⟨rfl,fun _=>⟨rfl,rfl,rfl,rfl,rfl⟩⟩
theorem orc_166 {args r} (n) (h:evBody E (orc E) n (166:Nat) Tryz.f166 args=some r):fo 166 args=some r:=orc_body n rfl rfl rfl Tryz.func166 h
@[simp] theorem e167:E.mode (167:Nat)=[]∧∀ r:Nat,E.kill (167:Nat) r=(lk kill167 r).getD []∧E.live (167:Nat) r=lk live167 r∧E.pairs (167:Nat) r=(lk pairs167 r).getD []∧E.keep (167:Nat) r=false∧E.take (167:Nat) r=false:=⟨rfl,fun _=>⟨rfl,rfl,rfl,rfl,rfl⟩⟩
theorem orc_167 {args r} (n) (h:evBody E (orc E) n (167:Nat) Tryz.f167 args=some r):fo 167 args=some r:=orc_body n rfl rfl rfl Tryz.func167 h
@[simp] theorem e168:E.mode (168:Nat)=[]∧∀ r:Nat,E.kill (168:Nat) r=(lk kill168 r).getD []∧E.live (168:Nat) r=lk live168 r∧E.pairs (168:Nat) r=(lk pairs168 r).getD []∧E.keep (168:Nat) r=false∧E.take (168:Nat) r=false:=⟨rfl,fun _=>⟨rfl,rfl,rfl,rfl,rfl⟩⟩
theorem orc_168 {args r} (n) (h:evBody E (orc E) n (168:Nat) Tryz.f168 args=some r):fo 168 args=some r:=orc_body n rfl rfl rfl Tryz.func168 h
@[simp] theorem e169:E.mode (169:Nat)=[]∧∀ r:Nat,E.kill (169:Nat) r=(lk kill169 r).getD []∧E.live (169:Nat) r=lk live169 r∧E.pairs (169:Nat) r=(lk pairs169 r).getD []∧E.keep (169:Nat) r=false∧E.take (169:Nat) r=false:=⟨rfl,fun _=>⟨rfl,rfl,rfl,rfl,rfl⟩⟩
theorem orc_169 {args r} (n) (h:evBody E (orc E) n (169:Nat) Tryz.f169 args=some r):fo 169 args=some r:=orc_body n rfl rfl rfl Tryz.func169 h
@[simp] theorem e170:E.mode (170:Nat)=[]∧∀ r:Nat,E.kill (170:Nat) r=(lk kill170 r).getD []∧E.live (170:Nat) r=lk live170 r∧E.pairs (170:Nat) r=(lk pairs170 r).getD []∧E.keep (170:Nat) r=false∧E.take (170:Nat) r=false:=⟨rfl,fun _=>⟨rfl,rfl,rfl,rfl,rfl⟩⟩
@[simp] theorem e173:E.mode (173:Nat)=[]∧∀ r:Nat,E.kill (173:Nat) r=(lk kill173 r).getD []∧E.live (173:Nat) r=lk live173 r∧E.pairs (173:Nat) r=(lk pairs173 r).getD []∧E.keep (173:Nat) r=false∧E.take (173:Nat) r=false:=⟨rfl,fun _=>⟨rfl,rfl,rfl,rfl,rfl⟩⟩
theorem orc_173 {args r} (n) (h:evBody E (orc E) n (173:Nat) Tryz.f173 args=some r):fo 173 args=some r:=orc_body n rfl rfl rfl Tryz.func173 h
@[simp] theorem e174:E.mode (174:Nat)=[]∧∀ r:Nat,E.kill (174:Nat) r=(lk kill174 r).getD []∧E.live (174:Nat) r=lk live174 r∧E.pairs (174:Nat) r=(lk pairs174 r).getD []∧E.keep (174:Nat) r=false∧E.take (174:Nat) r=false:=⟨rfl,fun _=>⟨rfl,rfl,rfl,rfl,rfl⟩⟩
theorem orc_174 {args r} (n) (h:evBody E (orc E) n (174:Nat) Tryz.f174 args=some r):fo 174 args=some r:=orc_body n rfl rfl rfl Tryz.func174 h
@[simp] theorem e175:E.mode (175:Nat)=[]∧∀ r:Nat,E.kill (175:Nat) r=(lk kill175 r).getD []∧E.live (175:Nat) r=lk live175 r∧E.pairs (175:Nat) r=(lk pairs175 r).getD []∧E.keep (175:Nat) r=false∧E.take (175:Nat) r=false:=⟨rfl,fun _=>⟨rfl,rfl,rfl,rfl,rfl⟩⟩
theorem orc_175 {args r} (n) (h:evBody E (orc E) n (175:Nat) Tryz.f175 args=some r):fo 175 args=some r:=orc_body n rfl rfl rfl Tryz.func175 h
@[simp] theorem e176:E.mode (176:Nat)=[]∧∀ r:Nat,E.kill (176:Nat) r=(lk kill176 r).getD []∧E.live (176:Nat) r=lk live176 r∧E.pairs (176:Nat) r=(lk pairs176 r).getD []∧E.keep (176:Nat) r=false∧E.take (176:Nat) r=([1,2,3]:List Nat).contains r:=⟨rfl,fun _=>⟨rfl,rfl,rfl,rfl,rfl⟩⟩
theorem orc_176 {args r} (n) (h:evBody E (orc E) n (176:Nat) Tryz.f176 args=some r):fo 176 args=some r:=orc_body n rfl rfl rfl Tryz.func176 h
@[simp] theorem e177:E.mode (177:Nat)=[]∧∀ r:Nat,E.kill (177:Nat) r=(lk kill177 r).getD []∧E.live (177:Nat) r=lk live177 r∧E.pairs (177:Nat) r=(lk pairs177 r).getD []∧E.keep (177:Nat) r=false∧E.take (177:Nat) r=false:=⟨rfl,fun _=>⟨rfl,rfl,rfl,rfl,rfl⟩⟩
theorem orc_177 {args r} (n) (h:evBody E (orc E) n (177:Nat) Tryz.f177 args=some r):fo 177 args=some r:=orc_body n rfl rfl rfl Tryz.func177 h
@[simp] theorem e178:E.mode (178:Nat)=[]∧∀ r:Nat,E.kill (178:Nat) r=(lk kill178 r).getD []∧E.live (178:Nat) r=lk live178 r∧E.pairs (178:Nat) r=(lk pairs178 r).getD []∧E.keep (178:Nat) r=false∧E.take (178:Nat) r=false:=⟨rfl,fun _=>⟨rfl,rfl,rfl,rfl,rfl⟩⟩
theorem orc_178 {args r} (n) (h:evBody E (orc E) n (178:Nat) Tryz.f178 args=some r):fo 178 args=some r:=orc_body n rfl rfl rfl Tryz.func178 h
@[simp] theorem e179:E.mode (179:Nat)=[]∧∀ r:Nat,E.kill (179:Nat) r=(lk kill179 r).getD []∧E.live (179:Nat) r=lk live179 r∧E.pairs (179:Nat) r=(lk pairs179 r).getD []∧E.keep (179:Nat) r=false∧E.take (179:Nat) r=false:=⟨rfl,fun _=>⟨rfl,rfl,rfl,rfl,rfl⟩⟩
theorem orc_179 {args r} (n) (h:evBody E (orc E) n (179:Nat) Tryz.f179 args=some r):fo 179 args=some r:=orc_body n rfl rfl rfl Tryz.func179 h
@[simp] theorem e180:E.mode (180:Nat)=[]∧∀ r:Nat,E.kill (180:Nat) r=(lk kill180 r).getD []∧E.live (180:Nat) r=lk live180 r∧E.pairs (180:Nat) r=(lk pairs180 r).getD []∧E.keep (180:Nat) r=false∧E.take (180:Nat) r=false:=⟨rfl,fun _=>⟨rfl,rfl,rfl,rfl,rfl⟩⟩
theorem orc_180 {args r} (n) (h:evBody E (orc E) n (180:Nat) Tryz.f180 args=some r):fo 180 args=some r:=orc_body n rfl rfl rfl Tryz.func180 h
@[simp] theorem e181:E.mode (181:Nat)=[]∧∀ r:Nat,E.kill (181:Nat) r=(lk kill181 r).getD []∧E.live (181:Nat) r=lk live181 r∧E.pairs (181:Nat) r=(lk pairs181 r).getD []∧E.keep (181:Nat) r=false∧E.take (181:Nat) r=false:=⟨rfl,fun _=>⟨rfl,rfl,rfl,rfl,rfl⟩⟩
theorem orc_181 {args r} (n) (h:evBody E (orc E) n (181:Nat) Tryz.f181 args=some r):fo 181 args=some r:=orc_body n rfl rfl rfl Tryz.func181 h
@[simp] theorem e182:E.mode (182:Nat)=[]∧∀ r:Nat,E.kill (182:Nat) r=(lk kill182 r).getD []∧E.live (182:Nat) r=lk live182 r∧E.pairs (182:Nat) r=(lk pairs182 r).getD []∧E.keep (182:Nat) r=([8,18,21]:List Nat).contains r∧E.take (182:Nat) r=false:=⟨rfl,fun _=>⟨rfl,rfl,rfl,rfl,rfl⟩⟩
theorem orc_182 {args r} (n) (h:evBody E (orc E) n (182:Nat) Tryz.f182 args=some r):fo 182 args=some r:=orc_body n rfl rfl rfl Tryz.func182 h
@[simp] theorem e183:E.mode (183:Nat)=[]∧∀ r:Nat,E.kill (183:Nat) r=(lk kill183 r).getD []∧E.live (183:Nat) r=lk live183 r∧E.pairs (183:Nat) r=(lk pairs183 r).getD []∧E.keep (183:Nat) r=([6]:List Nat).contains r∧E.take (183:Nat) r=([1,2,3]:List Nat).contains r:=⟨rfl,fun _=>⟨rfl,rfl,rfl,rfl,rfl⟩⟩
theorem orc_183 {args r} (n) (h:evBody E (orc E) n (183:Nat) Tryz.f183 args=some r):fo 183 args=some r:=orc_body n rfl rfl rfl Tryz.func183 h
@[simp] theorem e184:E.mode (184:Nat)=[]∧∀ r:Nat,E.kill (184:Nat) r=(lk kill184 r).getD []∧E.live (184:Nat) r=lk live184 r∧E.pairs (184:Nat) r=(lk pairs184 r).getD []∧E.keep (184:Nat) r=([9]:List Nat).contains r∧E.take (184:Nat) r=([1,2,3]:List Nat).contains r:=⟨rfl,fun _=>⟨rfl,rfl,rfl,rfl,rfl⟩⟩
theorem orc_184 {args r} (n) (h:evBody E (orc E) n (184:Nat) Tryz.f184 args=some r):fo 184 args=some r:=orc_body n rfl rfl rfl Tryz.func184 h
@[simp] theorem e185:E.mode (185:Nat)=[]∧∀ r:Nat,E.kill (185:Nat) r=(lk kill185 r).getD []∧E.live (185:Nat) r=lk live185 r∧E.pairs (185:Nat) r=(lk pairs185 r).getD []∧E.keep (185:Nat) r=false∧E.take (185:Nat) r=false:=⟨rfl,fun _=>⟨rfl,rfl,rfl,rfl,rfl⟩⟩
theorem orc_185 {args r} (n) (h:evBody E (orc E) n (185:Nat) Tryz.f185 args=some r):fo 185 args=some r:=orc_body n rfl rfl rfl Tryz.func185 h
@[simp] theorem e186:E.mode (186:Nat)=[]∧∀ r:Nat,E.kill (186:Nat) r=(lk kill186 r).getD []∧E.live (186:Nat) r=lk live186 r∧E.pairs (186:Nat) r=(lk pairs186 r).getD []∧E.keep (186:Nat) r=false∧E.take (186:Nat) r=false:=⟨rfl,fun _=>⟨rfl,rfl,rfl,rfl,rfl⟩⟩
theorem orc_186 {args r} (n) (h:evBody E (orc E) n (186:Nat) Tryz.f186 args=some r):fo 186 args=some r:=orc_body n rfl rfl rfl Tryz.func186 h
@[simp] theorem e187:E.mode (187:Nat)=[]∧∀ r:Nat,E.kill (187:Nat) r=(lk kill187 r).getD []∧E.live (187:Nat) r=lk live187 r∧E.pairs (187:Nat) r=(lk pairs187 r).getD []∧E.keep (187:Nat) r=([8,16,19]:List Nat).contains r∧E.take (187:Nat) r=([5]:List Nat).contains r:=⟨rfl,fun _=>⟨rfl,rfl,rfl,rfl,rfl⟩⟩
theorem orc_187 {args r} (n) (h:evBody E (orc E) n (187:Nat) Tryz.f187 args=some r):fo 187 args=some r:=orc_body n rfl rfl rfl Tryz.func187 h
@[simp] theorem e188:E.mode (188:Nat)=[]∧∀ r:Nat,E.kill (188:Nat) r=(lk kill188 r).getD []∧E.live (188:Nat) r=lk live188 r∧E.pairs (188:Nat) r=(lk pairs188 r).getD []∧E.keep (188:Nat) r=([5,8,11]:List Nat).contains r∧E.take (188:Nat) r=([1,2]:List Nat).contains r:=⟨rfl,fun _=>⟨rfl,rfl,rfl,rfl,rfl⟩⟩
theorem orc_188 {args r} (n) (h:evBody E (orc E) n (188:Nat) Tryz.f188 args=some r):fo 188 args=some r:=orc_body n rfl rfl rfl Tryz.func188 h
@[simp] theorem e189:E.mode (189:Nat)=[]∧∀ r:Nat,E.kill (189:Nat) r=(lk kill189 r).getD []∧E.live (189:Nat) r=lk live189 r∧E.pairs (189:Nat) r=(lk pairs189 r).getD []∧E.keep (189:Nat) r=false∧E.take (189:Nat) r=false:=⟨rfl,fun _=>⟨rfl,rfl,rfl,rfl,rfl⟩⟩
theorem orc_189 {args r} (n) (h:evBody E (orc E) n (189:Nat) Tryz.f189 args=some r):fo 189 args=some r:=orc_body n rfl rfl rfl Tryz.func189 h
@[simp] theorem e190:E.mode (190:Nat)=[]∧∀ r:Nat,E.kill (190:Nat) r=(lk kill190 r).getD []∧E.live (190:Nat) r=lk live190 r∧E.pairs (190:Nat) r=(lk pairs190 r).getD []∧E.keep (190:Nat) r=false∧E.take (190:Nat) r=false:=⟨rfl,fun _=>⟨rfl,rfl,rfl,rfl,rfl⟩⟩
theorem orc_190 {args r} (n) (h:evBody E (orc E) n (190:Nat) Tryz.f190 args=some r):fo 190 args=some r:=orc_body n rfl rfl rfl Tryz.func190 h
@[simp] theorem e191:E.mode (191:Nat)=[]∧∀ r:Nat,E.kill (191:Nat) r=(lk kill191 r).getD []∧E.live (191:Nat) r=lk live191 r∧E.pairs (191:Nat) r=(lk pairs191 r).getD []∧E.keep (191:Nat) r=false∧E.take (191:Nat) r=false:=⟨rfl,fun _=>⟨rfl,rfl,rfl,rfl,rfl⟩⟩
theorem orc_191 {args r} (n) (h:evBody E (orc E) n (191:Nat) Tryz.f191 args=some r):fo 191 args=some r:=orc_body n rfl rfl rfl Tryz.func191 h
@[simp] theorem e192:E.mode (192:Nat)=[]∧∀ r:Nat,E.kill (192:Nat) r=(lk kill192 r).getD []∧E.live (192:Nat) r=lk live192 r∧E.pairs (192:Nat) r=(lk pairs192 r).getD []∧E.keep (192:Nat) r=false∧E.take (192:Nat) r=false:=⟨rfl,fun _=>⟨rfl,rfl,rfl,rfl,rfl⟩⟩
theorem orc_192 {args r} (n) (h:evBody E (orc E) n (192:Nat) Tryz.f192 args=some r):fo 192 args=some r:=orc_body n rfl rfl rfl Tryz.func192 h
@[simp] theorem e194:E.mode (194:Nat)=[]∧∀ r:Nat,E.kill (194:Nat) r=(lk kill194 r).getD []∧E.live (194:Nat) r=lk live194 r∧E.pairs (194:Nat) r=(lk pairs194 r).getD []∧E.keep (194:Nat) r=false∧E.take (194:Nat) r=false:=⟨rfl,fun _=>⟨rfl,rfl,rfl,rfl,rfl⟩⟩
theorem orc_194 {args r} (n) (h:evBody E (orc E) n (194:Nat) Tryz.f194 args=some r):fo 194 args=some r:=orc_body n rfl rfl rfl Tryz.func194 h
@[simp] theorem e196:E.mode (196:Nat)=[]∧∀ r:Nat,E.kill (196:Nat) r=(lk kill196 r).getD []∧E.live (196:Nat) r=lk live196 r∧E.pairs (196:Nat) r=(lk pairs196 r).getD []∧E.keep (196:Nat) r=false∧E.take (196:Nat) r=false:=⟨rfl,fun _=>⟨rfl,rfl,rfl,rfl,rfl⟩⟩
theorem orc_196 {args r} (n) (h:evBody E (orc E) n (196:Nat) Tryz.f196 args=some r):fo 196 args=some r:=orc_body n rfl rfl rfl Tryz.func196 h
@[simp] theorem e199:E.mode (199:Nat)=[]∧∀ r:Nat,E.kill (199:Nat) r=(lk kill199 r).getD []∧E.live (199:Nat) r=lk live199 r∧E.pairs (199:Nat) r=(lk pairs199 r).getD []∧E.keep (199:Nat) r=false∧E.take (199:Nat) r=false:=⟨rfl,fun _=>⟨rfl,rfl,rfl,rfl,rfl⟩⟩
theorem orc_199 {args r} (n) (h:evBody E (orc E) n (199:Nat) Tryz.f199 args=some r):fo 199 args=some r:=orc_body n rfl rfl rfl Tryz.func199 h
@[simp] theorem e201:E.mode (201:Nat)=[]∧∀ r:Nat,E.kill (201:Nat) r=(lk kill201 r).getD []∧E.live (201:Nat) r=lk live201 r∧E.pairs (201:Nat) r=(lk pairs201 r).getD []∧E.keep (201:Nat) r=false∧E.take (201:Nat) r=false:=⟨rfl,fun _=>⟨rfl,rfl,rfl,rfl,rfl⟩⟩
theorem orc_201 {args r} (n) (h:evBody E (orc E) n (201:Nat) Tryz.f201 args=some r):fo 201 args=some r:=orc_body n rfl rfl rfl Tryz.func201 h
@[simp] theorem e202:E.mode (202:Nat)=[]∧∀ r:Nat,E.kill (202:Nat) r=(lk kill202 r).getD []∧E.live (202:Nat) r=lk live202 r∧E.pairs (202:Nat) r=(lk pairs202 r).getD []∧E.keep (202:Nat) r=false∧E.take (202:Nat) r=false:=⟨rfl,fun _=>⟨rfl,rfl,rfl,rfl,rfl⟩⟩
theorem orc_202 {args r} (n) (h:evBody E (orc E) n (202:Nat) Tryz.f202 args=some r):fo 202 args=some r:=orc_body n rfl rfl rfl Tryz.func202 h
@[simp] theorem e204:E.mode (204:Nat)=[]∧∀ r:Nat,E.kill (204:Nat) r=(lk kill204 r).getD []∧E.live (204:Nat) r=lk live204 r∧E.pairs (204:Nat) r=(lk pairs204 r).getD []∧E.keep (204:Nat) r=false∧E.take (204:Nat) r=false:=⟨rfl,fun _=>⟨rfl,rfl,rfl,rfl,rfl⟩⟩
theorem orc_204 {args r} (n) (h:evBody E (orc E) n (204:Nat) Tryz.f204 args=some r):fo 204 args=some r:=orc_body n rfl rfl rfl Tryz.func204 h
@[simp] theorem e207:E.mode (207:Nat)=[]∧∀ r:Nat,E.kill (207:Nat) r=(lk kill207 r).getD []∧E.live (207:Nat) r=lk live207 r∧E.pairs (207:Nat) r=(lk pairs207 r).getD []∧E.keep (207:Nat) r=false∧E.take (207:Nat) r=false:=⟨rfl,fun _=>⟨rfl,rfl,rfl,rfl,rfl⟩⟩
theorem orc_207 {args r} (n) (h:evBody E (orc E) n (207:Nat) Tryz.f207 args=some r):fo 207 args=some r:=orc_body n rfl rfl rfl Tryz.func207 h
@[simp] theorem e208:E.mode (208:Nat)=[]∧∀ r:Nat,E.kill (208:Nat) r=(lk kill208 r).getD []∧E.live (208:Nat) r=lk live208 r∧E.pairs (208:Nat) r=(lk pairs208 r).getD []∧E.keep (208:Nat) r=false∧E.take (208:Nat) r=false:=⟨rfl,fun _=>⟨rfl,rfl,rfl,rfl,rfl⟩⟩
theorem orc_208 {args r} (n) (h:evBody E (orc E) n (208:Nat) Tryz.f208 args=some r):fo 208 args=some r:=orc_body n rfl rfl rfl Tryz.func208 h
@[simp] theorem e209:E.mode (209:Nat)=[]∧∀ r:Nat,E.kill (209:Nat) r=(lk kill209 r).getD []∧E.live (209:Nat) r=lk live209 r∧E.pairs (209:Nat) r=(lk pairs209 r).getD []∧E.keep (209:Nat) r=([11,16,20,22,26,29]:List Nat).contains r∧E.take (209:Nat) r=([4]:List Nat).contains r:=⟨rfl,fun _=>⟨rfl,rfl,rfl,rfl,rfl⟩⟩
theorem orc_209 {args r} (n) (h:evBody E (orc E) n (209:Nat) Tryz.f209 args=some r):fo 209 args=some r:=orc_body n rfl rfl rfl Tryz.func209 h
@[simp] theorem e210:E.mode (210:Nat)=[]∧∀ r:Nat,E.kill (210:Nat) r=(lk kill210 r).getD []∧E.live (210:Nat) r=lk live210 r∧E.pairs (210:Nat) r=(lk pairs210 r).getD []∧E.keep (210:Nat) r=([6,10]:List Nat).contains r∧E.take (210:Nat) r=false:=⟨rfl,fun _=>⟨rfl,rfl,rfl,rfl,rfl⟩⟩
theorem orc_210 {args r} (n) (h:evBody E (orc E) n (210:Nat) Tryz.f210 args=some r):fo 210 args=some r:=orc_body n rfl rfl rfl Tryz.func210 h
@[simp] theorem e211:E.mode (211:Nat)=[]∧∀ r:Nat,E.kill (211:Nat) r=(lk kill211 r).getD []∧E.live (211:Nat) r=lk live211 r∧E.pairs (211:Nat) r=(lk pairs211 r).getD []∧E.keep (211:Nat) r=false∧E.take (211:Nat) r=false:=⟨rfl,fun _=>⟨rfl,rfl,rfl,rfl,rfl⟩⟩
theorem orc_211 {args r} (n) (h:evBody E (orc E) n (211:Nat) Tryz.f211 args=some r):fo 211 args=some r:=orc_body n rfl rfl rfl Tryz.func211 h
@[simp] theorem e212:E.mode (212:Nat)=[.V]∧∀ r:Nat,E.kill (212:Nat) r=(lk kill212 r).getD []∧E.live (212:Nat) r=lk live212 r∧E.pairs (212:Nat) r=(lk pairs212 r).getD []∧E.keep (212:Nat) r=([4,5]:List Nat).contains r∧E.take (212:Nat) r=([1,2]:List Nat).contains r:=⟨rfl,fun _=>⟨rfl,rfl,rfl,rfl,rfl⟩⟩
theorem orc_212 {args r} (n) (h:evBody E (orc E) n (212:Nat) Tryz.f212 args=some r):fo 212 args=some r:=orc_body n rfl rfl rfl Tryz.func212 h
@[simp] theorem e213:E.mode (213:Nat)=[]∧∀ r:Nat,E.kill (213:Nat) r=(lk kill213 r).getD []∧E.live (213:Nat) r=lk live213 r∧E.pairs (213:Nat) r=(lk pairs213 r).getD []∧E.keep (213:Nat) r=([10,17,24,26,33]:List Nat).contains r∧E.take (213:Nat) r=false:=⟨rfl,fun _=>⟨rfl,rfl,rfl,rfl,rfl⟩⟩
theorem orc_213 {args r} (n) (h:evBody E (orc E) n (213:Nat) Tryz.f213 args=some r):fo 213 args=some r:=orc_body n rfl rfl rfl Tryz.func213 h
@[simp] theorem e214:E.mode (214:Nat)=[]∧∀ r:Nat,E.kill (214:Nat) r=(lk kill214 r).getD []∧E.live (214:Nat) r=lk live214 r∧E.pairs (214:Nat) r=(lk pairs214 r).getD []∧E.keep (214:Nat) r=false∧E.take (214:Nat) r=false:=⟨rfl,fun _=>⟨rfl,rfl,rfl,rfl,rfl⟩⟩
theorem orc_214 {args r} (n) (h:evBody E (orc E) n (214:Nat) Tryz.f214 args=some r):fo 214 args=some r:=orc_body n rfl rfl rfl Tryz.func214 h
@[simp] theorem e215:E.mode (215:Nat)=[.L,.P]∧∀ r:Nat,E.kill (215:Nat) r=(lk kill215 r).getD []∧E.live (215:Nat) r=lk live215 r∧E.pairs (215:Nat) r=(lk pairs215 r).getD []∧E.keep (215:Nat) r=false∧E.take (215:Nat) r=false:=⟨rfl,fun _=>⟨rfl,rfl,rfl,rfl,rfl⟩⟩
theorem orc_215 {args r} (n) (h:evBody E (orc E) n (215:Nat) Tryz.f215 args=some r):fo 215 args=some r:=orc_body n rfl rfl rfl Tryz.func215 h
@[simp] theorem e216:E.mode (216:Nat)=[]∧∀ r:Nat,E.kill (216:Nat) r=(lk kill216 r).getD []∧E.live (216:Nat) r=lk live216 r∧E.pairs (216:Nat) r=(lk pairs216 r).getD []∧E.keep (216:Nat) r=false∧E.take (216:Nat) r=false:=⟨rfl,fun _=>⟨rfl,rfl,rfl,rfl,rfl⟩⟩
theorem orc_216 {args r} (n) (h:evBody E (orc E) n (216:Nat) Tryz.f216 args=some r):fo 216 args=some r:=orc_body n rfl rfl rfl Tryz.func216 h
@[simp] theorem e222:E.mode (222:Nat)=[]∧∀ r:Nat,E.kill (222:Nat) r=(lk kill222 r).getD []∧E.live (222:Nat) r=lk live222 r∧E.pairs (222:Nat) r=(lk pairs222 r).getD []∧E.keep (222:Nat) r=false∧E.take (222:Nat) r=false:=⟨rfl,fun _=>⟨rfl,rfl,rfl,rfl,rfl⟩⟩
theorem orc_222 {args r} (n) (h:evBody E (orc E) n (222:Nat) Tryz.f222 args=some r):fo 222 args=some r:=orc_body n rfl rfl rfl Tryz.func222 h
@[simp] theorem e223:E.mode (223:Nat)=[]∧∀ r:Nat,E.kill (223:Nat) r=(lk kill223 r).getD []∧E.live (223:Nat) r=lk live223 r∧E.pairs (223:Nat) r=(lk pairs223 r).getD []∧E.keep (223:Nat) r=false∧E.take (223:Nat) r=false:=⟨rfl,fun _=>⟨rfl,rfl,rfl,rfl,rfl⟩⟩
theorem orc_223 {args r} (n) (h:evBody E (orc E) n (223:Nat) Tryz.f223 args=some r):fo 223 args=some r:=orc_body n rfl rfl rfl Tryz.func223 h
@[simp] theorem e224:E.mode (224:Nat)=[]∧∀ r:Nat,E.kill (224:Nat) r=(lk kill224 r).getD []∧E.live (224:Nat) r=lk live224 r∧E.pairs (224:Nat) r=(lk pairs224 r).getD []∧E.keep (224:Nat) r=false∧E.take (224:Nat) r=false:=⟨rfl,fun _=>⟨rfl,rfl,rfl,rfl,rfl⟩⟩
theorem orc_224 {args r} (n) (h:evBody E (orc E) n (224:Nat) Tryz.f224 args=some r):fo 224 args=some r:=orc_body n rfl rfl rfl Tryz.func224 h
@[simp] theorem e228:E.mode (228:Nat)=[]∧∀ r:Nat,E.kill (228:Nat) r=(lk kill228 r).getD []∧E.live (228:Nat) r=lk live228 r∧E.pairs (228:Nat) r=(lk pairs228 r).getD []∧E.keep (228:Nat) r=false∧E.take (228:Nat) r=false:=⟨rfl,fun _=>⟨rfl,rfl,rfl,rfl,rfl⟩⟩
theorem orc_228 {args r} (n) (h:evBody E (orc E) n (228:Nat) Tryz.f228 args=some r):fo 228 args=some r:=orc_body n rfl rfl rfl Tryz.func228 h
@[simp] theorem e231:E.mode (231:Nat)=[]∧∀ r:Nat,E.kill (231:Nat) r=(lk kill231 r).getD []∧E.live (231:Nat) r=lk live231 r∧E.pairs (231:Nat) r=(lk pairs231 r).getD []∧E.keep (231:Nat) r=false∧E.take (231:Nat) r=([1,2,3]:List Nat).contains r:=⟨rfl,fun _=>⟨rfl,rfl,rfl,rfl,rfl⟩⟩
theorem orc_231 {args r} (n) (h:evBody E (orc E) n (231:Nat) Tryz.f231 args=some r):fo 231 args=some r:=orc_body n rfl rfl rfl Tryz.func231 h
@[simp] theorem e232:E.mode (232:Nat)=[.R,.M]∧∀ r:Nat,E.kill (232:Nat) r=(lk kill232 r).getD []∧E.live (232:Nat) r=lk live232 r∧E.pairs (232:Nat) r=(lk pairs232 r).getD []∧E.keep (232:Nat) r=false∧E.take (232:Nat) r=false:=⟨rfl,fun _=>⟨rfl,rfl,rfl,rfl,rfl⟩⟩
theorem orc_232 {args r} (n) (h:evBody E (orc E) n (232:Nat) Tryz.f232 args=some r):fo 232 args=some r:=orc_body n rfl rfl rfl Tryz.func232 h
@[simp] theorem e233:E.mode (233:Nat)=[]∧∀ r:Nat,E.kill (233:Nat) r=(lk kill233 r).getD []∧E.live (233:Nat) r=lk live233 r∧E.pairs (233:Nat) r=(lk pairs233 r).getD []∧E.keep (233:Nat) r=false∧E.take (233:Nat) r=false:=⟨rfl,fun _=>⟨rfl,rfl,rfl,rfl,rfl⟩⟩
theorem orc_233 {args r} (n) (h:evBody E (orc E) n (233:Nat) Tryz.f233 args=some r):fo 233 args=some r:=orc_body n rfl rfl rfl Tryz.func233 h
@[simp] theorem e234:E.mode (234:Nat)=[]∧∀ r:Nat,E.kill (234:Nat) r=(lk kill234 r).getD []∧E.live (234:Nat) r=lk live234 r∧E.pairs (234:Nat) r=(lk pairs234 r).getD []∧E.keep (234:Nat) r=false∧E.take (234:Nat) r=false:=⟨rfl,fun _=>⟨rfl,rfl,rfl,rfl,rfl⟩⟩
theorem orc_234 {args r} (n) (h:evBody E (orc E) n (234:Nat) Tryz.f234 args=some r):fo 234 args=some r:=orc_body n rfl rfl rfl Tryz.func234 h
@[simp] theorem e235:E.mode (235:Nat)=[]∧∀ r:Nat,E.kill (235:Nat) r=(lk kill235 r).getD []∧E.live (235:Nat) r=lk live235 r∧E.pairs (235:Nat) r=(lk pairs235 r).getD []∧E.keep (235:Nat) r=false∧E.take (235:Nat) r=false:=⟨rfl,fun _=>⟨rfl,rfl,rfl,rfl,rfl⟩⟩
theorem orc_235 {args r} (n) (h:evBody E (orc E) n (235:Nat) Tryz.f235 args=some r):fo 235 args=some r:=orc_body n rfl rfl rfl Tryz.func235 h
@[simp] theorem e236:E.mode (236:Nat)=[]∧∀ r:Nat,E.kill (236:Nat) r=(lk kill236 r).getD []∧E.live (236:Nat) r=lk live236 r∧E.pairs (236:Nat) r=(lk pairs236 r).getD []∧E.keep (236:Nat) r=false∧E.take (236:Nat) r=false:=⟨rfl,fun _=>⟨rfl,rfl,rfl,rfl,rfl⟩⟩
theorem orc_236 {args r} (n) (h:evBody E (orc E) n (236:Nat) Tryz.f236 args=some r):fo 236 args=some r:=orc_body n rfl rfl rfl Tryz.func236 h
@[simp] theorem e240:E.mode (240:Nat)=[]∧∀ r:Nat,E.kill (240:Nat) r=(lk kill240 r).getD []∧E.live (240:Nat) r=lk live240 r∧E.pairs (240:Nat) r=(lk pairs240 r).getD []∧E.keep (240:Nat) r=false∧E.take (240:Nat) r=false:=⟨rfl,fun _=>⟨rfl,rfl,rfl,rfl,rfl⟩⟩
theorem orc_240 {args r} (n) (h:evBody E (orc E) n (240:Nat) Tryz.f240 args=some r):fo 240 args=some r:=orc_body n rfl rfl rfl Tryz.func240 h
@[simp] theorem e241:E.mode (241:Nat)=[]∧∀ r:Nat,E.kill (241:Nat) r=(lk kill241 r).getD []∧E.live (241:Nat) r=lk live241 r∧E.pairs (241:Nat) r=(lk pairs241 r).getD []∧E.keep (241:Nat) r=false∧E.take (241:Nat) r=false:=⟨rfl,fun _=>⟨rfl,rfl,rfl,rfl,rfl⟩⟩
theorem orc_241 {args r} (n) (h:evBody E (orc E) n (241:Nat) Tryz.f241 args=some r):fo 241 args=some r:=orc_body n rfl rfl rfl Tryz.func241 h
@[simp] theorem e242:E.mode (242:Nat)=[]∧∀ r:Nat,E.kill (242:Nat) r=(lk kill242 r).getD []∧E.live (242:Nat) r=lk live242 r∧E.pairs (242:Nat) r=(lk pairs242 r).getD []∧E.keep (242:Nat) r=([9,20,25,30]:List Nat).contains r∧E.take (242:Nat) r=([5]:List Nat).contains r:=⟨rfl,fun _=>⟨rfl,rfl,rfl,rfl,rfl⟩⟩
theorem orc_242 {args r} (n) (h:evBody E (orc E) n (242:Nat) Tryz.f242 args=some r):fo 242 args=some r:=orc_body n rfl rfl rfl Tryz.func242 h
@[simp] theorem e243:E.mode (243:Nat)=[]∧∀ r:Nat,E.kill (243:Nat) r=(lk kill243 r).getD []∧E.live (243:Nat) r=lk live243 r∧E.pairs (243:Nat) r=(lk pairs243 r).getD []∧E.keep (243:Nat) r=([12,16,20]:List Nat).contains r∧E.take (243:Nat) r=([1,2,3]:List Nat).contains r:=⟨rfl,fun _=>⟨rfl,rfl,rfl,rfl,rfl⟩⟩
theorem orc_243 {args r} (n) (h:evBody E (orc E) n (243:Nat) Tryz.f243 args=some r):fo 243 args=some r:=orc_body n rfl rfl rfl Tryz.func243 h
@[simp] theorem e244:E.mode (244:Nat)=[]∧∀ r:Nat,E.kill (244:Nat) r=(lk kill244 r).getD []∧E.live (244:Nat) r=lk live244 r∧E.pairs (244:Nat) r=(lk pairs244 r).getD []∧E.keep (244:Nat) r=false∧E.take (244:Nat) r=false:=⟨rfl,fun _=>⟨rfl,rfl,rfl,rfl,rfl⟩⟩
theorem orc_244 {args r} (n) (h:evBody E (orc E) n (244:Nat) Tryz.f244 args=some r):fo 244 args=some r:=orc_body n rfl rfl rfl Tryz.func244 h
@[simp] theorem e245:E.mode (245:Nat)=[]∧∀ r:Nat,E.kill (245:Nat) r=(lk kill245 r).getD []∧E.live (245:Nat) r=lk live245 r∧E.pairs (245:Nat) r=(lk pairs245 r).getD []∧E.keep (245:Nat) r=false∧E.take (245:Nat) r=false:=⟨rfl,fun _=>⟨rfl,rfl,rfl,rfl,rfl⟩⟩
theorem orc_245 {args r} (n) (h:evBody E (orc E) n (245:Nat) Tryz.f245 args=some r):fo 245 args=some r:=orc_body n rfl rfl rfl Tryz.func245 h
@[simp] theorem e246:E.mode (246:Nat)=[]∧∀ r:Nat,E.kill (246:Nat) r=(lk kill246 r).getD []∧E.live (246:Nat) r=lk live246 r∧E.pairs (246:Nat) r=(lk pairs246 r).getD []∧E.keep (246:Nat) r=([8,15,18,24]:List Nat).contains r∧E.take (246:Nat) r=([5]:List Nat).contains r:=⟨rfl,fun _=>⟨rfl,rfl,rfl,rfl,rfl⟩⟩
theorem orc_246 {args r} (n) (h:evBody E (orc E) n (246:Nat) Tryz.f246 args=some r):fo 246 args=some r:=orc_body n rfl rfl rfl Tryz.func246 h
@[simp] theorem e247:E.mode (247:Nat)=[]∧∀ r:Nat,E.kill (247:Nat) r=(lk kill247 r).getD []∧E.live (247:Nat) r=lk live247 r∧E.pairs (247:Nat) r=(lk pairs247 r).getD []∧E.keep (247:Nat) r=false∧E.take (247:Nat) r=false:=⟨rfl,fun _=>⟨rfl,rfl,rfl,rfl,rfl⟩⟩
theorem orc_247 {args r} (n) (h:evBody E (orc E) n (247:Nat) Tryz.f247 args=some r):fo 247 args=some r:=orc_body n rfl rfl rfl Tryz.func247 h
@[simp] theorem e252:E.mode (252:Nat)=[]∧∀ r:Nat,E.kill (252:Nat) r=(lk kill252 r).getD []∧E.live (252:Nat) r=lk live252 r∧E.pairs (252:Nat) r=(lk pairs252 r).getD []∧E.keep (252:Nat) r=false∧E.take (252:Nat) r=false:=⟨rfl,fun _=>⟨rfl,rfl,rfl,rfl,rfl⟩⟩
theorem orc_252 {args r} (n) (h:evBody E (orc E) n (252:Nat) Tryz.f252 args=some r):fo 252 args=some r:=orc_body n rfl rfl rfl Tryz.func252 h
@[simp] theorem e253:E.mode (253:Nat)=[]∧∀ r:Nat,E.kill (253:Nat) r=(lk kill253 r).getD []∧E.live (253:Nat) r=lk live253 r∧E.pairs (253:Nat) r=(lk pairs253 r).getD []∧E.keep (253:Nat) r=false∧E.take (253:Nat) r=false:=⟨rfl,fun _=>⟨rfl,rfl,rfl,rfl,rfl⟩⟩
theorem orc_253 {args r} (n) (h:evBody E (orc E) n (253:Nat) Tryz.f253 args=some r):fo 253 args=some r:=orc_body n rfl rfl rfl Tryz.func253 h
@[simp] theorem e255:E.mode (255:Nat)=[]∧∀ r:Nat,E.kill (255:Nat) r=(lk kill255 r).getD []∧E.live (255:Nat) r=lk live255 r∧E.pairs (255:Nat) r=(lk pairs255 r).getD []∧E.keep (255:Nat) r=false∧E.take (255:Nat) r=false:=⟨rfl,fun _=>⟨rfl,rfl,rfl,rfl,rfl⟩⟩
theorem orc_255 {args r} (n) (h:evBody E (orc E) n (255:Nat) Tryz.f255 args=some r):fo 255 args=some r:=orc_body n rfl rfl rfl Tryz.func255 h
@[simp] theorem e256:E.mode (256:Nat)=[]∧∀ r:Nat,E.kill (256:Nat) r=(lk kill256 r).getD []∧E.live (256:Nat) r=lk live256 r∧E.pairs (256:Nat) r=(lk pairs256 r).getD []∧E.keep (256:Nat) r=false∧E.take (256:Nat) r=false:=⟨rfl,fun _=>⟨rfl,rfl,rfl,rfl,rfl⟩⟩
theorem orc_256 {args r} (n) (h:evBody E (orc E) n (256:Nat) Tryz.f256 args=some r):fo 256 args=some r:=orc_body n rfl rfl rfl Tryz.func256 h
@[simp] theorem e257:E.mode (257:Nat)=[]∧∀ r:Nat,E.kill (257:Nat) r=(lk kill257 r).getD []∧E.live (257:Nat) r=lk live257 r∧E.pairs (257:Nat) r=(lk pairs257 r).getD []∧E.keep (257:Nat) r=([12]:List Nat).contains r∧E.take (257:Nat) r=([1]:List Nat).contains r:=⟨rfl,fun _=>⟨rfl,rfl,rfl,rfl,rfl⟩⟩
theorem orc_257 {args r} (n) (h:evBody E (orc E) n (257:Nat) Tryz.f257 args=some r):fo 257 args=some r:=orc_body n rfl rfl rfl Tryz.func257 h
@[simp] theorem e258:E.mode (258:Nat)=[.P,.P]∧∀ r:Nat,E.kill (258:Nat) r=(lk kill258 r).getD []∧E.live (258:Nat) r=lk live258 r∧E.pairs (258:Nat) r=(lk pairs258 r).getD []∧E.keep (258:Nat) r=([10,12,19,22,24]:List Nat).contains r∧E.take (258:Nat) r=false:=⟨rfl,fun _=>⟨rfl,rfl,rfl,rfl,rfl⟩⟩
theorem orc_258 {args r} (n) (h:evBody E (orc E) n (258:Nat) Tryz.f258 args=some r):fo 258 args=some r:=orc_body n rfl rfl rfl Tryz.func258 h
@[simp] theorem e259:E.mode (259:Nat)=[]∧∀ r:Nat,E.kill (259:Nat) r=(lk kill259 r).getD []∧E.live (259:Nat) r=lk live259 r∧E.pairs (259:Nat) r=(lk pairs259 r).getD []∧E.keep (259:Nat) r=false∧E.take (259:Nat) r=false:=⟨rfl,fun _=>⟨rfl,rfl,rfl,rfl,rfl⟩⟩
theorem orc_259 {args r} (n) (h:evBody E (orc E) n (259:Nat) Tryz.f259 args=some r):fo 259 args=some r:=orc_body n rfl rfl rfl Tryz.func259 h
@[simp] theorem e262:E.mode (262:Nat)=[]∧∀ r:Nat,E.kill (262:Nat) r=(lk kill262 r).getD []∧E.live (262:Nat) r=lk live262 r∧E.pairs (262:Nat) r=(lk pairs262 r).getD []∧E.keep (262:Nat) r=false∧E.take (262:Nat) r=false:=⟨rfl,fun _=>⟨rfl,rfl,rfl,rfl,rfl⟩⟩
theorem orc_262 {args r} (n) (h:evBody E (orc E) n (262:Nat) Tryz.f262 args=some r):fo 262 args=some r:=orc_body n rfl rfl rfl Tryz.func262 h
@[simp] theorem e263:E.mode (263:Nat)=[]∧∀ r:Nat,E.kill (263:Nat) r=(lk kill263 r).getD []∧E.live (263:Nat) r=lk live263 r∧E.pairs (263:Nat) r=(lk pairs263 r).getD []∧E.keep (263:Nat) r=false∧E.take (263:Nat) r=false:=⟨rfl,fun _=>⟨rfl,rfl,rfl,rfl,rfl⟩⟩
theorem orc_263 {args r} (n) (h:evBody E (orc E) n (263:Nat) Tryz.f263 args=some r):fo 263 args=some r:=orc_body n rfl rfl rfl Tryz.func263 h
@[simp] theorem e264:E.mode (264:Nat)=[]∧∀ r:Nat,E.kill (264:Nat) r=(lk kill264 r).getD []∧E.live (264:Nat) r=lk live264 r∧E.pairs (264:Nat) r=(lk pairs264 r).getD []∧E.keep (264:Nat) r=false∧E.take (264:Nat) r=false:=⟨rfl,fun _=>⟨rfl,rfl,rfl,rfl,rfl⟩⟩
theorem orc_264 {args r} (n) (h:evBody E (orc E) n (264:Nat) Tryz.f264 args=some r):fo 264 args=some r:=orc_body n rfl rfl rfl Tryz.func264 h
@[simp] theorem e265:E.mode (265:Nat)=[]∧∀ r:Nat,E.kill (265:Nat) r=(lk kill265 r).getD []∧E.live (265:Nat) r=lk live265 r∧E.pairs (265:Nat) r=(lk pairs265 r).getD []∧E.keep (265:Nat) r=false∧E.take (265:Nat) r=false:=⟨rfl,fun _=>⟨rfl,rfl,rfl,rfl,rfl⟩⟩
theorem orc_265 {args r} (n) (h:evBody E (orc E) n (265:Nat) Tryz.f265 args=some r):fo 265 args=some r:=orc_body n rfl rfl rfl Tryz.func265 h
@[simp] theorem e266:E.mode (266:Nat)=[]∧∀ r:Nat,E.kill (266:Nat) r=(lk kill266 r).getD []∧E.live (266:Nat) r=lk live266 r∧E.pairs (266:Nat) r=(lk pairs266 r).getD []∧E.keep (266:Nat) r=false∧E.take (266:Nat) r=false:=⟨rfl,fun _=>⟨rfl,rfl,rfl,rfl,rfl⟩⟩
theorem orc_266 {args r} (n) (h:evBody E (orc E) n (266:Nat) Tryz.f266 args=some r):fo 266 args=some r:=orc_body n rfl rfl rfl Tryz.func266 h
@[simp] theorem e267:E.mode (267:Nat)=[]∧∀ r:Nat,E.kill (267:Nat) r=(lk kill267 r).getD []∧E.live (267:Nat) r=lk live267 r∧E.pairs (267:Nat) r=(lk pairs267 r).getD []∧E.keep (267:Nat) r=false∧E.take (267:Nat) r=false:=⟨rfl,fun _=>⟨rfl,rfl,rfl,rfl,rfl⟩⟩
theorem orc_267 {args r} (n) (h:evBody E (orc E) n (267:Nat) Tryz.f267 args=some r):fo 267 args=some r:=orc_body n rfl rfl rfl Tryz.func267 h
@[simp] theorem e268:E.mode (268:Nat)=[]∧∀ r:Nat,E.kill (268:Nat) r=(lk kill268 r).getD []∧E.live (268:Nat) r=lk live268 r∧E.pairs (268:Nat) r=(lk pairs268 r).getD []∧E.keep (268:Nat) r=false∧E.take (268:Nat) r=false:=⟨rfl,fun _=>⟨rfl,rfl,rfl,rfl,rfl⟩⟩
theorem orc_268 {args r} (n) (h:evBody E (orc E) n (268:Nat) Tryz.f268 args=some r):fo 268 args=some r:=orc_body n rfl rfl rfl Tryz.func268 h
@[simp] theorem e269:E.mode (269:Nat)=[]∧∀ r:Nat,E.kill (269:Nat) r=(lk kill269 r).getD []∧E.live (269:Nat) r=lk live269 r∧E.pairs (269:Nat) r=(lk pairs269 r).getD []∧E.keep (269:Nat) r=false∧E.take (269:Nat) r=false:=⟨rfl,fun _=>⟨rfl,rfl,rfl,rfl,rfl⟩⟩
theorem orc_269 {args r} (n) (h:evBody E (orc E) n (269:Nat) Tryz.f269 args=some r):fo 269 args=some r:=orc_body n rfl rfl rfl Tryz.func269 h
@[simp] theorem e270:E.mode (270:Nat)=[]∧∀ r:Nat,E.kill (270:Nat) r=(lk kill270 r).getD []∧E.live (270:Nat) r=lk live270 r∧E.pairs (270:Nat) r=(lk pairs270 r).getD []∧E.keep (270:Nat) r=false∧E.take (270:Nat) r=false:=⟨rfl,fun _=>⟨rfl,rfl,rfl,rfl,rfl⟩⟩
theorem orc_270 {args r} (n) (h:evBody E (orc E) n (270:Nat) Tryz.f270 args=some r):fo 270 args=some r:=orc_body n rfl rfl rfl Tryz.func270 h
@[simp] theorem e272:E.mode (272:Nat)=[]∧∀ r:Nat,E.kill (272:Nat) r=(lk kill272 r).getD []∧E.live (272:Nat) r=lk live272 r∧E.pairs (272:Nat) r=(lk pairs272 r).getD []∧E.keep (272:Nat) r=false∧E.take (272:Nat) r=false:=⟨rfl,fun _=>⟨rfl,rfl,rfl,rfl,rfl⟩⟩
theorem orc_272 {args r} (n) (h:evBody E (orc E) n (272:Nat) Tryz.f272 args=some r):fo 272 args=some r:=orc_body n rfl rfl rfl Tryz.func272 h
@[simp] theorem e273:E.mode (273:Nat)=[.M,.R]∧∀ r:Nat,E.kill (273:Nat) r=(lk kill273 r).getD []∧E.live (273:Nat) r=lk live273 r∧E.pairs (273:Nat) r=(lk pairs273 r).getD []∧E.keep (273:Nat) r=false∧E.take (273:Nat) r=false:=⟨rfl,fun _=>⟨rfl,rfl,rfl,rfl,rfl⟩⟩
theorem orc_273 {args r} (n) (h:evBody E (orc E) n (273:Nat) Tryz.f273 args=some r):fo 273 args=some r:=orc_body n rfl rfl rfl Tryz.func273 h
@[simp] theorem e274:E.mode (274:Nat)=[.M]∧∀ r:Nat,E.kill (274:Nat) r=(lk kill274 r).getD []∧E.live (274:Nat) r=lk live274 r∧E.pairs (274:Nat) r=(lk pairs274 r).getD []∧E.keep (274:Nat) r=false∧E.take (274:Nat) r=false:=⟨rfl,fun _=>⟨rfl,rfl,rfl,rfl,rfl⟩⟩
theorem orc_274 {args r} (n) (h:evBody E (orc E) n (274:Nat) Tryz.f274 args=some r):fo 274 args=some r:=orc_body n rfl rfl rfl Tryz.func274 h
@[simp] theorem e275:E.mode (275:Nat)=[]∧∀ r:Nat,E.kill (275:Nat) r=(lk kill275 r).getD []∧E.live (275:Nat) r=lk live275 r∧E.pairs (275:Nat) r=(lk pairs275 r).getD []∧E.keep (275:Nat) r=false∧E.take (275:Nat) r=false:=⟨rfl,fun _=>⟨rfl,rfl,rfl,rfl,rfl⟩⟩
theorem orc_275 {args r} (n) (h:evBody E (orc E) n (275:Nat) Tryz.f275 args=some r):fo 275 args=some r:=orc_body n rfl rfl rfl Tryz.func275 h
@[simp] theorem e276:E.mode (276:Nat)=[]∧∀ r:Nat,E.kill (276:Nat) r=(lk kill276 r).getD []∧E.live (276:Nat) r=lk live276 r∧E.pairs (276:Nat) r=(lk pairs276 r).getD []∧E.keep (276:Nat) r=false∧E.take (276:Nat) r=false:=⟨rfl,fun _=>⟨rfl,rfl,rfl,rfl,rfl⟩⟩
theorem orc_276 {args r} (n) (h:evBody E (orc E) n (276:Nat) Tryz.f276 args=some r):fo 276 args=some r:=orc_body n rfl rfl rfl Tryz.func276 h
@[simp] theorem e277:E.mode (277:Nat)=[]∧∀ r:Nat,E.kill (277:Nat) r=(lk kill277 r).getD []∧E.live (277:Nat) r=lk live277 r∧E.pairs (277:Nat) r=(lk pairs277 r).getD []∧E.keep (277:Nat) r=false∧E.take (277:Nat) r=false:=⟨rfl,fun _=>⟨rfl,rfl,rfl,rfl,rfl⟩⟩
theorem orc_277 {args r} (n) (h:evBody E (orc E) n (277:Nat) Tryz.f277 args=some r):fo 277 args=some r:=orc_body n rfl rfl rfl Tryz.func277 h
@[simp] theorem e278:E.mode (278:Nat)=[]∧∀ r:Nat,E.kill (278:Nat) r=(lk kill278 r).getD []∧E.live (278:Nat) r=lk live278 r∧E.pairs (278:Nat) r=(lk pairs278 r).getD []∧E.keep (278:Nat) r=false∧E.take (278:Nat) r=false:=⟨rfl,fun _=>⟨rfl,rfl,rfl,rfl,rfl⟩⟩
theorem orc_278 {args r} (n) (h:evBody E (orc E) n (278:Nat) Tryz.f278 args=some r):fo 278 args=some r:=orc_body n rfl rfl rfl Tryz.func278 h
@[simp] theorem e279:E.mode (279:Nat)=[]∧∀ r:Nat,E.kill (279:Nat) r=(lk kill279 r).getD []∧E.live (279:Nat) r=lk live279 r∧E.pairs (279:Nat) r=(lk pairs279 r).getD []∧E.keep (279:Nat) r=false∧E.take (279:Nat) r=false:=⟨rfl,fun _=>⟨rfl,rfl,rfl,rfl,rfl⟩⟩
theorem orc_279 {args r} (n) (h:evBody E (orc E) n (279:Nat) Tryz.f279 args=some r):fo 279 args=some r:=orc_body n rfl rfl rfl Tryz.func279 h
@[simp] theorem e280:E.mode (280:Nat)=[]∧∀ r:Nat,E.kill (280:Nat) r=(lk kill280 r).getD []∧E.live (280:Nat) r=lk live280 r∧E.pairs (280:Nat) r=(lk pairs280 r).getD []∧E.keep (280:Nat) r=false∧E.take (280:Nat) r=false:=⟨rfl,fun _=>⟨rfl,rfl,rfl,rfl,rfl⟩⟩
theorem orc_280 {args r} (n) (h:evBody E (orc E) n (280:Nat) Tryz.f280 args=some r):fo 280 args=some r:=orc_body n rfl rfl rfl Tryz.func280 h
@[simp] theorem e281:E.mode (281:Nat)=[]∧∀ r:Nat,E.kill (281:Nat) r=(lk kill281 r).getD []∧E.live (281:Nat) r=lk live281 r∧E.pairs (281:Nat) r=(lk pairs281 r).getD []∧E.keep (281:Nat) r=false∧E.take (281:Nat) r=false:=⟨rfl,fun _=>⟨rfl,rfl,rfl,rfl,rfl⟩⟩
theorem orc_281 {args r} (n) (h:evBody E (orc E) n (281:Nat) Tryz.f281 args=some r):fo 281 args=some r:=orc_body n rfl rfl rfl Tryz.func281 h
@[simp] theorem e283:E.mode (283:Nat)=[]∧∀ r:Nat,E.kill (283:Nat) r=(lk kill283 r).getD []∧E.live (283:Nat) r=lk live283 r∧E.pairs (283:Nat) r=(lk pairs283 r).getD []∧E.keep (283:Nat) r=false∧E.take (283:Nat) r=false:=⟨rfl,fun _=>⟨rfl,rfl,rfl,rfl,rfl⟩⟩
theorem orc_283 {args r} (n) (h:evBody E (orc E) n (283:Nat) Tryz.f283 args=some r):fo 283 args=some r:=orc_body n rfl rfl rfl Tryz.func283 h
@[simp] theorem e284:E.mode (284:Nat)=[]∧∀ r:Nat,E.kill (284:Nat) r=(lk kill284 r).getD []∧E.live (284:Nat) r=lk live284 r∧E.pairs (284:Nat) r=(lk pairs284 r).getD []∧E.keep (284:Nat) r=false∧E.take (284:Nat) r=false:=⟨rfl,fun _=>⟨rfl,rfl,rfl,rfl,rfl⟩⟩
theorem orc_284 {args r} (n) (h:evBody E (orc E) n (284:Nat) Tryz.f284 args=some r):fo 284 args=some r:=orc_body n rfl rfl rfl Tryz.func284 h
@[simp] theorem e285:E.mode (285:Nat)=[]∧∀ r:Nat,E.kill (285:Nat) r=(lk kill285 r).getD []∧E.live (285:Nat) r=lk live285 r∧E.pairs (285:Nat) r=(lk pairs285 r).getD []∧E.keep (285:Nat) r=false∧E.take (285:Nat) r=false:=⟨rfl,fun _=>⟨rfl,rfl,rfl,rfl,rfl⟩⟩
@[simp] theorem e286:E.mode (286:Nat)=[]∧∀ r:Nat,E.kill (286:Nat) r=(lk kill286 r).getD []∧E.live (286:Nat) r=lk live286 r∧E.pairs (286:Nat) r=(lk pairs286 r).getD []∧E.keep (286:Nat) r=false∧E.take (286:Nat) r=false:=⟨rfl,fun _=>⟨rfl,rfl,rfl,rfl,rfl⟩⟩
theorem orc_286 {args r} (n) (h:evBody E (orc E) n (286:Nat) Tryz.f286 args=some r):fo 286 args=some r:=orc_body n rfl rfl rfl Tryz.func286 h
@[simp] theorem e288:E.mode (288:Nat)=[]∧∀ r:Nat,E.kill (288:Nat) r=(lk kill288 r).getD []∧E.live (288:Nat) r=lk live288 r∧E.pairs (288:Nat) r=(lk pairs288 r).getD []∧E.keep (288:Nat) r=false∧E.take (288:Nat) r=false:=⟨rfl,fun _=>⟨rfl,rfl,rfl,rfl,rfl⟩⟩
theorem orc_288 {args r} (n) (h:evBody E (orc E) n (288:Nat) Tryz.f288 args=some r):fo 288 args=some r:=orc_body n rfl rfl rfl Tryz.func288 h
@[simp] theorem e290:E.mode (290:Nat)=[]∧∀ r:Nat,E.kill (290:Nat) r=(lk kill290 r).getD []∧E.live (290:Nat) r=lk live290 r∧E.pairs (290:Nat) r=(lk pairs290 r).getD []∧E.keep (290:Nat) r=false∧E.take (290:Nat) r=false:=⟨rfl,fun _=>⟨rfl,rfl,rfl,rfl,rfl⟩⟩
theorem orc_290 {args r} (n) (h:evBody E (orc E) n (290:Nat) Tryz.f290 args=some r):fo 290 args=some r:=orc_body n rfl rfl rfl Tryz.func290 h
@[simp] theorem e291:E.mode (291:Nat)=[]∧∀ r:Nat,E.kill (291:Nat) r=(lk kill291 r).getD []∧E.live (291:Nat) r=lk live291 r∧E.pairs (291:Nat) r=(lk pairs291 r).getD []∧E.keep (291:Nat) r=false∧E.take (291:Nat) r=false:=⟨rfl,fun _=>⟨rfl,rfl,rfl,rfl,rfl⟩⟩
theorem orc_291 {args r} (n) (h:evBody E (orc E) n (291:Nat) Tryz.f291 args=some r):fo 291 args=some r:=orc_body n rfl rfl rfl Tryz.func291 h
@[simp] theorem e294:E.mode (294:Nat)=[]∧∀ r:Nat,E.kill (294:Nat) r=(lk kill294 r).getD []∧E.live (294:Nat) r=lk live294 r∧E.pairs (294:Nat) r=(lk pairs294 r).getD []∧E.keep (294:Nat) r=false∧E.take (294:Nat) r=false:=⟨rfl,fun _=>⟨rfl,rfl,rfl,rfl,rfl⟩⟩
theorem orc_294 {args r} (n) (h:evBody E (orc E) n (294:Nat) Tryz.f294 args=some r):fo 294 args=some r:=orc_body n rfl rfl rfl Tryz.func294 h
@[simp] theorem e295:E.mode (295:Nat)=[.R,.R,.V]∧∀ r:Nat,E.kill (295:Nat) r=(lk kill295 r).getD []∧E.live (295:Nat) r=lk live295 r∧E.pairs (295:Nat) r=(lk pairs295 r).getD []∧E.keep (295:Nat) r=([24,38]:List Nat).contains r∧E.take (295:Nat) r=false:=⟨rfl,fun _=>⟨rfl,rfl,rfl,rfl,rfl⟩⟩
theorem orc_295 {args r} (n) (h:evBody E (orc E) n (295:Nat) Tryz.f295 args=some r):fo 295 args=some r:=orc_body n rfl rfl rfl Tryz.func295 h
@[simp] theorem e296:E.mode (296:Nat)=[]∧∀ r:Nat,E.kill (296:Nat) r=(lk kill296 r).getD []∧E.live (296:Nat) r=lk live296 r∧E.pairs (296:Nat) r=(lk pairs296 r).getD []∧E.keep (296:Nat) r=false∧E.take (296:Nat) r=false:=⟨rfl,fun _=>⟨rfl,rfl,rfl,rfl,rfl⟩⟩
theorem orc_296 {args r} (n) (h:evBody E (orc E) n (296:Nat) Tryz.f296 args=some r):fo 296 args=some r:=orc_body n rfl rfl rfl Tryz.func296 h
@[simp] theorem e298:E.mode (298:Nat)=[]∧∀ r:Nat,E.kill (298:Nat) r=(lk kill298 r).getD []∧E.live (298:Nat) r=lk live298 r∧E.pairs (298:Nat) r=(lk pairs298 r).getD []∧E.keep (298:Nat) r=false∧E.take (298:Nat) r=false:=⟨rfl,fun _=>⟨rfl,rfl,rfl,rfl,rfl⟩⟩
theorem orc_298 {args r} (n) (h:evBody E (orc E) n (298:Nat) Tryz.f298 args=some r):fo 298 args=some r:=orc_body n rfl rfl rfl Tryz.func298 h
@[simp] theorem e299:E.mode (299:Nat)=[]∧∀ r:Nat,E.kill (299:Nat) r=(lk kill299 r).getD []∧E.live (299:Nat) r=lk live299 r∧E.pairs (299:Nat) r=(lk pairs299 r).getD []∧E.keep (299:Nat) r=false∧E.take (299:Nat) r=false:=⟨rfl,fun _=>⟨rfl,rfl,rfl,rfl,rfl⟩⟩
theorem orc_299 {args r} (n) (h:evBody E (orc E) n (299:Nat) Tryz.f299 args=some r):fo 299 args=some r:=orc_body n rfl rfl rfl Tryz.func299 h
@[simp] theorem e300:E.mode (300:Nat)=[]∧∀ r:Nat,E.kill (300:Nat) r=(lk kill300 r).getD []∧E.live (300:Nat) r=lk live300 r∧E.pairs (300:Nat) r=(lk pairs300 r).getD []∧E.keep (300:Nat) r=false∧E.take (300:Nat) r=false:=⟨rfl,fun _=>⟨rfl,rfl,rfl,rfl,rfl⟩⟩
theorem orc_300 {args r} (n) (h:evBody E (orc E) n (300:Nat) Tryz.f300 args=some r):fo 300 args=some r:=orc_body n rfl rfl rfl Tryz.func300 h
@[simp] theorem e301:E.mode (301:Nat)=[]∧∀ r:Nat,E.kill (301:Nat) r=(lk kill301 r).getD []∧E.live (301:Nat) r=lk live301 r∧E.pairs (301:Nat) r=(lk pairs301 r).getD []∧E.keep (301:Nat) r=false∧E.take (301:Nat) r=false:=⟨rfl,fun _=>⟨rfl,rfl,rfl,rfl,rfl⟩⟩
theorem orc_301 {args r} (n) (h:evBody E (orc E) n (301:Nat) Tryz.f301 args=some r):fo 301 args=some r:=orc_body n rfl rfl rfl Tryz.func301 h
@[simp] theorem e302:E.mode (302:Nat)=[]∧∀ r:Nat,E.kill (302:Nat) r=(lk kill302 r).getD []∧E.live (302:Nat) r=lk live302 r∧E.pairs (302:Nat) r=(lk pairs302 r).getD []∧E.keep (302:Nat) r=false∧E.take (302:Nat) r=false:=⟨rfl,fun _=>⟨rfl,rfl,rfl,rfl,rfl⟩⟩
theorem orc_302 {args r} (n) (h:evBody E (orc E) n (302:Nat) Tryz.f302 args=some r):fo 302 args=some r:=orc_body n rfl rfl rfl Tryz.func302 h
@[simp] theorem e303:E.mode (303:Nat)=[]∧∀ r:Nat,E.kill (303:Nat) r=(lk kill303 r).getD []∧E.live (303:Nat) r=lk live303 r∧E.pairs (303:Nat) r=(lk pairs303 r).getD []∧E.keep (303:Nat) r=false∧E.take (303:Nat) r=false:=⟨rfl,fun _=>⟨rfl,rfl,rfl,rfl,rfl⟩⟩
theorem orc_303 {args r} (n) (h:evBody E (orc E) n (303:Nat) Tryz.f303 args=some r):fo 303 args=some r:=orc_body n rfl rfl rfl Tryz.func303 h
@[simp] theorem e304:E.mode (304:Nat)=[]∧∀ r:Nat,E.kill (304:Nat) r=(lk kill304 r).getD []∧E.live (304:Nat) r=lk live304 r∧E.pairs (304:Nat) r=(lk pairs304 r).getD []∧E.keep (304:Nat) r=false∧E.take (304:Nat) r=false:=⟨rfl,fun _=>⟨rfl,rfl,rfl,rfl,rfl⟩⟩
theorem orc_304 {args r} (n) (h:evBody E (orc E) n (304:Nat) Tryz.f304 args=some r):fo 304 args=some r:=orc_body n rfl rfl rfl Tryz.func304 h
@[simp] theorem e305:E.mode (305:Nat)=[]∧∀ r:Nat,E.kill (305:Nat) r=(lk kill305 r).getD []∧E.live (305:Nat) r=lk live305 r∧E.pairs (305:Nat) r=(lk pairs305 r).getD []∧E.keep (305:Nat) r=false∧E.take (305:Nat) r=false:=⟨rfl,fun _=>⟨rfl,rfl,rfl,rfl,rfl⟩⟩
theorem orc_305 {args r} (n) (h:evBody E (orc E) n (305:Nat) Tryz.f305 args=some r):fo 305 args=some r:=orc_body n rfl rfl rfl Tryz.func305 h
@[simp] theorem e306:E.mode (306:Nat)=[]∧∀ r:Nat,E.kill (306:Nat) r=(lk kill306 r).getD []∧E.live (306:Nat) r=lk live306 r∧E.pairs (306:Nat) r=(lk pairs306 r).getD []∧E.keep (306:Nat) r=false∧E.take (306:Nat) r=false:=⟨rfl,fun _=>⟨rfl,rfl,rfl,rfl,rfl⟩⟩
theorem orc_306 {args r} (n) (h:evBody E (orc E) n (306:Nat) Tryz.f306 args=some r):fo 306 args=some r:=orc_body n rfl rfl rfl Tryz.func306 h
@[simp] theorem e307:E.mode (307:Nat)=[]∧∀ r:Nat,E.kill (307:Nat) r=(lk kill307 r).getD []∧E.live (307:Nat) r=lk live307 r∧E.pairs (307:Nat) r=(lk pairs307 r).getD []∧E.keep (307:Nat) r=false∧E.take (307:Nat) r=false:=⟨rfl,fun _=>⟨rfl,rfl,rfl,rfl,rfl⟩⟩
theorem orc_307 {args r} (n) (h:evBody E (orc E) n (307:Nat) Tryz.f307 args=some r):fo 307 args=some r:=orc_body n rfl rfl rfl Tryz.func307 h
@[simp] theorem e308:E.mode (308:Nat)=[]∧∀ r:Nat,E.kill (308:Nat) r=(lk kill308 r).getD []∧E.live (308:Nat) r=lk live308 r∧E.pairs (308:Nat) r=(lk pairs308 r).getD []∧E.keep (308:Nat) r=false∧E.take (308:Nat) r=false:=⟨rfl,fun _=>⟨rfl,rfl,rfl,rfl,rfl⟩⟩
theorem orc_308 {args r} (n) (h:evBody E (orc E) n (308:Nat) Tryz.f308 args=some r):fo 308 args=some r:=orc_body n rfl rfl rfl Tryz.func308 h
@[simp] theorem e309:E.mode (309:Nat)=[]∧∀ r:Nat,E.kill (309:Nat) r=(lk kill309 r).getD []∧E.live (309:Nat) r=lk live309 r∧E.pairs (309:Nat) r=(lk pairs309 r).getD []∧E.keep (309:Nat) r=false∧E.take (309:Nat) r=false:=⟨rfl,fun _=>⟨rfl,rfl,rfl,rfl,rfl⟩⟩
theorem orc_309 {args r} (n) (h:evBody E (orc E) n (309:Nat) Tryz.f309 args=some r):fo 309 args=some r:=orc_body n rfl rfl rfl Tryz.func309 h
@[simp] theorem e310:E.mode (310:Nat)=[]∧∀ r:Nat,E.kill (310:Nat) r=(lk kill310 r).getD []∧E.live (310:Nat) r=lk live310 r∧E.pairs (310:Nat) r=(lk pairs310 r).getD []∧E.keep (310:Nat) r=false∧E.take (310:Nat) r=false:=⟨rfl,fun _=>⟨rfl,rfl,rfl,rfl,rfl⟩⟩
theorem orc_310 {args r} (n) (h:evBody E (orc E) n (310:Nat) Tryz.f310 args=some r):fo 310 args=some r:=orc_body n rfl rfl rfl Tryz.func310 h
@[simp] theorem e311:E.mode (311:Nat)=[]∧∀ r:Nat,E.kill (311:Nat) r=(lk kill311 r).getD []∧E.live (311:Nat) r=lk live311 r∧E.pairs (311:Nat) r=(lk pairs311 r).getD []∧E.keep (311:Nat) r=false∧E.take (311:Nat) r=false:=⟨rfl,fun _=>⟨rfl,rfl,rfl,rfl,rfl⟩⟩
theorem orc_311 {args r} (n) (h:evBody E (orc E) n (311:Nat) Tryz.f311 args=some r):fo 311 args=some r:=orc_body n rfl rfl rfl Tryz.func311 h
@[simp] theorem e312:E.mode (312:Nat)=[]∧∀ r:Nat,E.kill (312:Nat) r=(lk kill312 r).getD []∧E.live (312:Nat) r=lk live312 r∧E.pairs (312:Nat) r=(lk pairs312 r).getD []∧E.keep (312:Nat) r=false∧E.take (312:Nat) r=false:=⟨rfl,fun _=>⟨rfl,rfl,rfl,rfl,rfl⟩⟩
theorem orc_312 {args r} (n) (h:evBody E (orc E) n (312:Nat) Tryz.f312 args=some r):fo 312 args=some r:=orc_body n rfl rfl rfl Tryz.func312 h
end Go.TM.Ft
