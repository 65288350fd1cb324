/- The tables that the machine is told. -/
import Derived.Test.YtldklhcklkaplaaGreatDoorTE0
set_option linter.unusedSimpArgs false
set_option linter.unusedVariables false
namespace Go.TM.It
open Go Go.TM Go.Proofs Go.RowKit
set_option maxRecDepth 20000
def joinB (xs:List ByteArray) (sep:ByteArray):ByteArray:=⟨(Lib.join (xs.map (·.data.toList)) sep.data.toList).toArray⟩
def strsOf:List (List T)→Option (List ByteArray)
 | []=>some []
 | [.v (.string x)]::r=>match strsOf r with | some xs=>some (x::xs) | none=>none
 | _=>none
def joinT (args:List Arg):Option Res:=
 match args with
 | [⟨.sl e es,none⟩,⟨.v (.string sep),none⟩]=>
  match strsOf es with
  | some xs=>if e=9∧xs.length≤1048576∧(Lib.join (xs.map (·.data.toList)) sep.data.toList).length≤1099511627776 then some ⟨.v (.string (joinB xs sep)),[],true⟩ else none
  | none=>none
 | _=>none
def decT (args:List Arg):Option Res:=
 match args with
 | [⟨.v (.int .i64 n),none⟩]=>if -9223372036854775808≤n∧n≤9223372036854775807 then some ⟨.v (.string (decB n)),[],true⟩ else none
 | _=>none
theorem strs_at {sz h I}:∀ {es:List (List T)} {xs:List ByteArray} {l:List Value},strsOf es=some xs→okEs sz h I 1 es l []→xs.length=es.length∧∀ (j:Nat) x,xs[j]?=some x→l[j]?=some (.string x)
 | [],xs,l,h1,_=>by
  simp only[strsOf,Option.some.injEq] at h1
  subst h1
  exact⟨rfl,fun j x hx=>by simp at hx⟩
 | c::es,xs,l,h1,h2=>by
  unfold strsOf at h1
  split at h1
  ·rename_i h;simp at h
  ·rename_i x r heq
   obtain⟨rfl,rfl⟩:=List.cons.inj heq
   split at h1
   ·rename_i ys hy
    simp only[Option.some.injEq] at h1
    subst h1
    simp only[okEs] at h2
    obtain⟨f1,f2,-,hf,h3,h4⟩:=h2
    obtain⟨rfl,rfl⟩:f1=[]∧f2=[]:=by simpa using hf.symm
    obtain⟨hl,hr⟩:=strs_at hy h4
    simp only[okL,okV] at h3
    obtain⟨u,us',g1,g2,e1,-,⟨rfl,-⟩,rfl,-⟩:=h3
    refine⟨by simp[hl],fun j y hj=>?_⟩
    cases j with
    | zero=>
     simp only[List.getElem?_cons_zero,Option.some.injEq] at hj
     subst hj
     have:=congrArg (·[0]?) e1
     simpa[List.getElem?_take] using this
    | succ j=>
     simp only[List.getElem?_cons_succ] at hj
     have:=hr j y hj
     rw[List.getElem?_drop] at this
     rwa[Nat.add_comm] at this
   ·cases h1
  ·cases h1
theorem dec_enters:Enters E0 46:=⟨_,Tryz.func46,rfl,rfl⟩
theorem join_enters:Enters E0 50:=⟨_,Tryz.func50,rfl,rfl⟩
theorem pow_tab:(Lib.pow10Tab.map fun z=>Value.int .u64 z)=thePows:=by unfold Lib.pow10Tab thePows;rw[List.map_map];rfl
theorem dec_sound:∀ args r,decT args=some r→Sound E0 46 args r∧Enters E0 46:=by
 intro args r h
 have hm:lends (E0.mode 46)=false:=rfl
 unfold decT at h
 split at h
 ·rename_i n
  split at h
  ·rename_i hc
   simp only[Option.some.injEq] at h
   subst h
   refine⟨⟨fun hl=>by rw[hm] at hl;simp at hl,fun _ z us hu hb hok=>?_,fun hl=>by rw[hm] at hl;simp at hl,able0.view _⟩,dec_enters⟩
   simp only[okArgs,okArg] at hok
   obtain⟨u,us',f1,f2,rfl,hF,⟨h1,rfl⟩,rfl,rfl⟩:=hok
   simp only[okV] at h1
   obtain⟨rfl,-⟩:=h1
   have hF0:z.F0=[]:=by rw[hF];rfl
   have htab : Lib.TabIs Tryz.prog z.w0 "internal/strconv.uint64pow10" .u64 Lib.pow10Tab := by
    obtain⟨-,arr,el,fz,hb1,h3⟩:=z.gok 1 _ rfl
    have hg : Tryz.prog.globalNamed "internal/strconv.uint64pow10" = some 1 := by kernel_rfl
    unfold Lib.TabIs World.var?
    rw[hg,pow_tab,←h3]
    simp only[Option.bind_some,hb1]
   refine Calls.mono (decimal_ok n hc.1 hc.2 z.w0 htab) fun e w' ⟨he,hw⟩=>?_
   subst he
   show Back (szOf E0) z _ _ _ _ _
   refine⟨⟨hw.os,hw.output,hw.tape,hw.size,fun x hx _=>hw.block x hx⟩,⟨[],[],?_,rfl,?_,?_⟩,fun _=>?_⟩
   ·simp only[okV,and_self]
   ·intro y;simp
   ·intro y hy;simp at hy
   ·rfl
  ·simp at h
 ·simp at h
theorem join_sound:∀ args r,joinT args=some r→Sound E0 50 args r∧Enters E0 50:=by
 intro args r h
 have hm:lends (E0.mode 50)=false:=rfl
 unfold joinT at h
 split at h
 ·rename_i e es sep
  split at h
  ·rename_i xs hxs
   split at h
   ·rename_i hc
    obtain⟨rfl,hc1,hc2⟩:=hc
    simp only[Option.some.injEq] at h
    subst h
    refine⟨⟨fun hl=>by rw[hm] at hl;simp at hl,fun _ z us hu hb hok=>?_,fun hl=>by rw[hm] at hl;simp at hl,able0.view _⟩,join_enters⟩
    simp only[okArgs,okArg] at hok
    obtain⟨u,us',f1,f2,rfl,hF,⟨h1,rfl⟩,u2,us2,f3,f4,rfl,hF2,⟨h2,rfl⟩,rfl,rfl⟩:=hok
    simp only[okV,true_and] at h1 h2
    obtain⟨rfl,-⟩:=h2
    obtain⟨a,cap,rfl,hcap,h3⟩:=h1
    have hsz:szOf E0 9=1:=rfl
    rw[hsz] at h3
    have key:Calls Tryz.prog 50 #[.slice a es.length cap,.string sep] z.w0 fun e w'=>e=.returned (.string (joinB xs sep))∧Below z.w0.heap.size z.w0 w':=by
     rcases h3 with rfl | ⟨b,o,arr,el,fz,rfl,-,hb,hes⟩
     ·simp only[strsOf,Option.some.injEq] at hxs
      subst hxs
      exact (Tryz.strings_Join_none a cap sep z.w0).mono fun e w' ⟨he,hw⟩=>⟨he,by rw[hw];exact Below.refl _ _⟩
     ·obtain⟨hl,hat⟩:=strs_at hxs hes
      rw[←hl]
      refine Tryz.strings_Join b o cap xs sep z.w0 (fun j x hx=>?_) ?_ (by omega) (by omega) (by omega)
      ·have:=hat j x hx
       rw[List.getElem?_drop,Array.getElem?_toList] at this
       exact cell_of hb this
      ·rcases Nat.lt_or_ge b z.w0.heap.size with h1 | h1
       ·exact h1
       ·rw[Array.getElem?_eq_none h1] at hb;cases hb
    refine Calls.mono key fun e w' ⟨he,hw⟩=>?_
    subst he
    show Back (szOf E0) z _ _ _ _ _
    refine⟨⟨hw.os,hw.output,hw.tape,hw.size,fun x hx _=>hw.block x hx⟩,⟨[],[],?_,rfl,?_,?_⟩,fun _=>?_⟩
    ·simp only[okV,and_self]
    ·intro y;simp
    ·intro y hy;simp at hy
    ·rfl
   ·simp at h
  ·simp at h
 ·simp at h
noncomputable def extT:List (Nat×(List Arg→Option Res)):=[(46,decT),(50,joinT)]
theorem ext_ok:∀ f g,lk extT f=some g→∀ args r,g args=some r→Sound E0 f args r∧Enters E0 f:=by
 intro f g h
 unfold extT at h
 simp only[lk] at h
 repeat' split at h
 ·rename_i hf;subst hf;simp only[Option.some.injEq] at h;subst h;exact dec_sound
 ·rename_i hf;subst hf;simp only[Option.some.injEq] at h;subst h;exact join_sound
 ·simp at h
end Go.TM.It
namespace Go.TM.It
open Go Go.TM Go.Proofs
set_option maxRecDepth 100000
noncomputable def E:Env:={ E0 with ext:=fun f=>lk extT f }
noncomputable abbrev fo (f:Nat) (args:List Arg):Option Res:=orc E f args
@[simp] theorem E_view (f:Nat):E.view f=viewT f:=rfl
@[simp] theorem E_clr (f r:Nat):E.clr f r=clrT f r:=rfl
theorem E_P:E.P=Tryz.prog:=rfl
theorem able:Able E:=⟨fun t i h=>by
 obtain⟨h1,h2,h3,h4,h5,h6,h7,h8⟩:=able0.ti t i h
 exact⟨h1,h2,h3,h4,h5,h6,h7,h8⟩,able0.mix,able0.good,fun f g hg args r hr=>by
 obtain⟨⟨h1,h2,h3,h5⟩,h4⟩:=ext_ok f g hg args r hr
 exact⟨⟨h1,h2,h3,h5⟩,h4⟩,able0.view⟩
@[simp] theorem tiA:E.ti 2=some ty2∧E.ti 3=some ty3∧E.ti 4=some ty4∧E.ti 5=some ty5∧E.ti 9=some ty9∧E.ti 22=some ty22∧E.ti 23=some ty23∧E.ti 25=some ty25∧E.ti 26=some ty26∧E.ti 28=some ty28∧E.ti 31=some ty31∧E.ti 33=some ty33∧E.ti 34=some ty34∧E.ti 36=some ty36∧E.ti 37=some ty37∧E.ti 39=some ty39∧E.ti 49=some ty49∧E.ti 66=some ty66∧E.ti 68=some ty68∧E.ti 69=some ty69∧E.ti 72=some ty72∧E.ti 73=some ty73∧E.ti 75=some ty75∧E.ti 77=some ty77∧E.ti 78=some ty78∧E.ti 80=some ty80∧E.ti 82=some ty82∧E.ti 83=some ty83∧E.ti 88=some ty88∧E.ti 91=some ty91∧E.ti 92=some ty92∧E.ti 101=some ty101∧E.ti 103=some ty103∧E.ti 105=some ty105∧E.ti 107=some ty107∧E.ti 110=some ty110∧E.ti 112=some ty112∧E.ti 113=some ty113∧E.ti 140=some ty140∧E.ti 142=some ty142∧E.ti 144=some ty144∧E.ti 145=some ty145∧E.ti 150=some ty150∧E.ti 152=some ty152∧E.ti 159=some ty159∧E.ti 161=some ty161∧E.ti 178=some ty178∧E.ti 191=some ty191∧E.ti 204=some ty204∧E.ti 206=some ty206∧E.ti 211=some ty211∧E.ti 213=some ty213:=⟨rfl,rfl,rfl,rfl,rfl,rfl,rfl,rfl,rfl,rfl,rfl,rfl,rfl,rfl,rfl,rfl,rfl,rfl,rfl,rfl,rfl,rfl,rfl,rfl,rfl,rfl,rfl,rfl,rfl,rfl,rfl,rfl,rfl,rfl,rfl,rfl,rfl,rfl,rfl,rfl,rfl,rfl,rfl,rfl,rfl,rfl,rfl,rfl,rfl,rfl,rfl,rfl⟩
abbrev EQ (k:Nat) (m:List Mode) (l:LvT) (q:KlT) (p:PrT) (a b:List Nat):Prop:=E.mode k=m∧∀ r:Nat,E.kill k r=(lk q r).getD []∧E.live k r=lk l r∧E.pairs k r=(lk p r).getD []∧E.keep k r=a.contains r∧E.take k r=b.contains r
@[simp] theorem e3:EQ 3 [] live3 kill3 pairs3 [11,15,17,19,22,25,29,30] [2,6,7,8]:=⟨rfl,fun _=>⟨rfl,rfl,rfl,rfl,rfl⟩⟩
abbrev OB (k:Nat) (f:Func):Prop:=∀ {args:List Arg} {r:Res} (n:Nat),evBody E (orc E) n k f args=some r→fo k args=some r
theorem orc_3:OB 3 Tryz.f3:=fun n h=>orc_body n rfl rfl rfl Tryz.func3 h
@[simp] theorem e4:EQ 4 [] live4 kill4 pairs4 [9,13,14,16,18,21,25,26] [1,4,5,6]:=⟨rfl,fun _=>⟨rfl,rfl,rfl,rfl,rfl⟩⟩
theorem orc_4:OB 4 Tryz.f4:=fun n h=>orc_body n rfl rfl rfl Tryz.func4 h
@[simp] theorem e5:EQ 5 [] live5 kill5 [] [] []:=⟨rfl,fun _=>⟨rfl,rfl,rfl,rfl,rfl⟩⟩
theorem orc_5:OB 5 Tryz.f5:=fun n h=>orc_body n rfl rfl rfl Tryz.func5 h
@[simp] theorem e6:EQ 6 [] live6 kill6 [] [6,15,17,21] [2,4]:=⟨rfl,fun _=>⟨rfl,rfl,rfl,rfl,rfl⟩⟩
theorem orc_6:OB 6 Tryz.f6:=fun n h=>orc_body n rfl rfl rfl Tryz.func6 h
@[simp] theorem e7:EQ 7 [] live7 kill7 [] [] []:=⟨rfl,fun _=>⟨rfl,rfl,rfl,rfl,rfl⟩⟩
theorem orc_7:OB 7 Tryz.f7:=fun n h=>orc_body n rfl rfl rfl Tryz.func7 h
@[simp] theorem e8:EQ 8 [] live8 kill8 pairs8 [7,12,13,15,17,24] [2,4]:=⟨rfl,fun _=>⟨rfl,rfl,rfl,rfl,rfl⟩⟩
theorem orc_8:OB 8 Tryz.f8:=fun n h=>orc_body n rfl rfl rfl Tryz.func8 h
@[simp] theorem e9:EQ 9 [] live9 kill9 [] [] []:=⟨rfl,fun _=>⟨rfl,rfl,rfl,rfl,rfl⟩⟩
theorem orc_9:OB 9 Tryz.f9:=fun n h=>orc_body n rfl rfl rfl Tryz.func9 h
@[simp] theorem e10:EQ 10 [] live10 kill10 [] [] []:=⟨rfl,fun _=>⟨rfl,rfl,rfl,rfl,rfl⟩⟩
theorem orc_10:OB 10 Tryz.f10:=fun n h=>orc_body n rfl rfl rfl Tryz.func10 h
@[simp] theorem e11:EQ 11 [] live11 kill11 [] [4,9] [1,2]:=⟨rfl,fun _=>⟨rfl,rfl,rfl,rfl,rfl⟩⟩
theorem orc_11:OB 11 Tryz.f11:=fun n h=>orc_body n rfl rfl rfl Tryz.func11 h
@[simp] theorem e12:EQ 12 [] live12 kill12 [] [5,11] [1,2]:=⟨rfl,fun _=>⟨rfl,rfl,rfl,rfl,rfl⟩⟩
theorem orc_12:OB 12 Tryz.f12:=fun n h=>orc_body n rfl rfl rfl Tryz.func12 h
@[simp] theorem e13:EQ 13 [] live13 kill13 [] [] []:=⟨rfl,fun _=>⟨rfl,rfl,rfl,rfl,rfl⟩⟩
theorem orc_13:OB 13 Tryz.f13:=fun n h=>orc_body n rfl rfl rfl Tryz.func13 h
@[simp] theorem e14:EQ 14 [] live14 kill14 [] [] []:=⟨rfl,fun _=>⟨rfl,rfl,rfl,rfl,rfl⟩⟩
theorem orc_14:OB 14 Tryz.f14:=fun n h=>orc_body n rfl rfl rfl Tryz.func14 h
@[simp] theorem e15:EQ 15 [] live15 kill15 [] [] []:=⟨rfl,fun _=>⟨rfl,rfl,rfl,rfl,rfl⟩⟩
theorem orc_15:OB 15 Tryz.f15:=fun n h=>orc_body n rfl rfl rfl Tryz.func15 h
@[simp] theorem e16:EQ 16 [] live16 kill16 [] [] []:=⟨rfl,fun _=>⟨rfl,rfl,rfl,rfl,rfl⟩⟩
theorem orc_16:OB 16 Tryz.f16:=fun n h=>orc_body n rfl rfl rfl Tryz.func16 h
@[simp] theorem e17:EQ 17 [] live17 kill17 pairs17 [] []:=⟨rfl,fun _=>⟨rfl,rfl,rfl,rfl,rfl⟩⟩
theorem orc_17:OB 17 Tryz.f17:=fun n h=>orc_body n rfl rfl rfl Tryz.func17 h
@[simp] theorem e18:EQ 18 [] live18 kill18 [] [] []:=⟨rfl,fun _=>⟨rfl,rfl,rfl,rfl,rfl⟩⟩
theorem orc_18:OB 18 Tryz.f18:=fun n h=>orc_body n rfl rfl rfl Tryz.func18 h
@[simp] theorem e19:EQ 19 [] live19 kill19 [] [] []:=⟨rfl,fun _=>⟨rfl,rfl,rfl,rfl,rfl⟩⟩
theorem orc_19:OB 19 Tryz.f19:=fun n h=>orc_body n rfl rfl rfl Tryz.func19 h
@[simp] theorem e20:EQ 20 [] live20 kill20 [] [] []:=⟨rfl,fun _=>⟨rfl,rfl,rfl,rfl,rfl⟩⟩
theorem orc_20:OB 20 Tryz.f20:=fun n h=>orc_body n rfl rfl rfl Tryz.func20 h
@[simp] theorem e21:EQ 21 [] live21 kill21 pairs21 [] []:=⟨rfl,fun _=>⟨rfl,rfl,rfl,rfl,rfl⟩⟩
theorem orc_21:OB 21 Tryz.f21:=fun n h=>orc_body n rfl rfl rfl Tryz.func21 h
@[simp] theorem e22:EQ 22 [] live22 kill22 [] [] []:=⟨rfl,fun _=>⟨rfl,rfl,rfl,rfl,rfl⟩⟩
theorem orc_22:OB 22 Tryz.f22:=fun n h=>orc_body n rfl rfl rfl Tryz.func22 h
@[simp] theorem e23:EQ 23 [] live23 kill23 [] [] []:=⟨rfl,fun _=>⟨rfl,rfl,rfl,rfl,rfl⟩⟩
theorem orc_23:OB 23 Tryz.f23:=fun n h=>orc_body n rfl rfl rfl Tryz.func23 h
@[simp] theorem e24:EQ 24 [] live24 kill24 pairs24 [] []:=⟨rfl,fun _=>⟨rfl,rfl,rfl,rfl,rfl⟩⟩
theorem orc_24:OB 24 Tryz.f24:=fun n h=>orc_body n rfl rfl rfl Tryz.func24 h
@[simp] theorem e25:EQ 25 [] live25 kill25 [] [] []:=⟨rfl,fun _=>⟨rfl,rfl,rfl,rfl,rfl⟩⟩
theorem orc_25:OB 25 Tryz.f25:=fun n h=>orc_body n rfl rfl rfl Tryz.func25 h
@[simp] theorem e26:EQ 26 [] live26 kill26 [] [] []:=⟨rfl,fun _=>⟨rfl,rfl,rfl,rfl,rfl⟩⟩
theorem orc_26:OB 26 Tryz.f26:=fun n h=>orc_body n rfl rfl rfl Tryz.func26 h
@[simp] theorem e27:EQ 27 [] live27 kill27 [] [] []:=⟨rfl,fun _=>⟨rfl,rfl,rfl,rfl,rfl⟩⟩
theorem orc_27:OB 27 Tryz.f27:=fun n h=>orc_body n rfl rfl rfl Tryz.func27 h
@[simp] theorem e28:EQ 28 [] live28 kill28 [] [] []:=⟨rfl,fun _=>⟨rfl,rfl,rfl,rfl,rfl⟩⟩
theorem orc_28:OB 28 Tryz.f28:=fun n h=>orc_body n rfl rfl rfl Tryz.func28 h
@[simp] theorem e29:EQ 29 [] live29 kill29 [] [] []:=⟨rfl,fun _=>⟨rfl,rfl,rfl,rfl,rfl⟩⟩
theorem orc_29:OB 29 Tryz.f29:=fun n h=>orc_body n rfl rfl rfl Tryz.func29 h
@[simp] theorem e30:EQ 30 [] live30 kill30 [] [] []:=⟨rfl,fun _=>⟨rfl,rfl,rfl,rfl,rfl⟩⟩
theorem orc_30:OB 30 Tryz.f30:=fun n h=>orc_body n rfl rfl rfl Tryz.func30 h
@[simp] theorem e31:EQ 31 [] live31 kill31 [] [] []:=⟨rfl,fun _=>⟨rfl,rfl,rfl,rfl,rfl⟩⟩
theorem orc_31:OB 31 Tryz.f31:=fun n h=>orc_body n rfl rfl rfl Tryz.func31 h
@[simp] theorem e32:EQ 32 [] live32 kill32 [] [] []:=⟨rfl,fun _=>⟨rfl,rfl,rfl,rfl,rfl⟩⟩
theorem orc_32:OB 32 Tryz.f32:=fun n h=>orc_body n rfl rfl rfl Tryz.func32 h
@[simp] theorem e33:EQ 33 [] live33 kill33 [] [] []:=⟨rfl,fun _=>⟨rfl,rfl,rfl,rfl,rfl⟩⟩
theorem orc_33:OB 33 Tryz.f33:=fun n h=>orc_body n rfl rfl rfl Tryz.func33 h
@[simp] theorem e34:EQ 34 [] live34 kill34 [] [] []:=⟨rfl,fun _=>⟨rfl,rfl,rfl,rfl,rfl⟩⟩
theorem orc_34:OB 34 Tryz.f34:=fun n h=>orc_body n rfl rfl rfl Tryz.func34 h
@[simp] theorem e35:EQ 35 [] live35 kill35 pairs35 [] []:=⟨rfl,fun _=>⟨rfl,rfl,rfl,rfl,rfl⟩⟩
theorem orc_35:OB 35 Tryz.f35:=fun n h=>orc_body n rfl rfl rfl Tryz.func35 h
@[simp] theorem e36:EQ 36 [] live36 kill36 [] [] []:=⟨rfl,fun _=>⟨rfl,rfl,rfl,rfl,rfl⟩⟩
theorem orc_36:OB 36 Tryz.f36:=fun n h=>orc_body n rfl rfl rfl Tryz.func36 h
@[simp] theorem e37:EQ 37 [] live37 kill37 [] [] []:=⟨rfl,fun _=>⟨rfl,rfl,rfl,rfl,rfl⟩⟩
theorem orc_37:OB 37 Tryz.f37:=fun n h=>orc_body n rfl rfl rfl Tryz.func37 h
@[simp] theorem e38:EQ 38 [] live38 kill38 [] [] []:=⟨rfl,fun _=>⟨rfl,rfl,rfl,rfl,rfl⟩⟩
theorem orc_38:OB 38 Tryz.f38:=fun n h=>orc_body n rfl rfl rfl Tryz.func38 h
@[simp] theorem e39:EQ 39 [] live39 kill39 [] [] []:=⟨rfl,fun _=>⟨rfl,rfl,rfl,rfl,rfl⟩⟩
theorem orc_39:OB 39 Tryz.f39:=fun n h=>orc_body n rfl rfl rfl Tryz.func39 h
@[simp] theorem e40:EQ 40 [] live40 kill40 [] [] []:=⟨rfl,fun _=>⟨rfl,rfl,rfl,rfl,rfl⟩⟩
theorem orc_40:OB 40 Tryz.f40:=fun n h=>orc_body n rfl rfl rfl Tryz.func40 h
@[simp] theorem e41:EQ 41 [] live41 kill41 pairs41 [] []:=⟨rfl,fun _=>⟨rfl,rfl,rfl,rfl,rfl⟩⟩
theorem orc_41:OB 41 Tryz.f41:=fun n h=>orc_body n rfl rfl rfl Tryz.func41 h
@[simp] theorem e42:EQ 42 [] live42 kill42 [] [] []:=⟨rfl,fun _=>⟨rfl,rfl,rfl,rfl,rfl⟩⟩
theorem orc_42:OB 42 Tryz.f42:=fun n h=>orc_body n rfl rfl rfl Tryz.func42 h
@[simp] theorem e43:EQ 43 [] live43 kill43 pairs43 [] []:=⟨rfl,fun _=>⟨rfl,rfl,rfl,rfl,rfl⟩⟩
theorem orc_43:OB 43 Tryz.f43:=fun n h=>orc_body n rfl rfl rfl Tryz.func43 h
@[simp] theorem e44:EQ 44 [] live44 kill44 pairs44 [] []:=⟨rfl,fun _=>⟨rfl,rfl,rfl,rfl,rfl⟩⟩
theorem orc_44:OB 44 Tryz.f44:=fun n h=>orc_body n rfl rfl rfl Tryz.func44 h
@[simp] theorem e45:EQ 45 [] live45 kill45 [] [] []:=⟨rfl,fun _=>⟨rfl,rfl,rfl,rfl,rfl⟩⟩
theorem orc_45:OB 45 Tryz.f45:=fun n h=>orc_body n rfl rfl rfl Tryz.func45 h
@[simp] theorem e47:EQ 47 [] live47 kill47 [] [] []:=⟨rfl,fun _=>⟨rfl,rfl,rfl,rfl,rfl⟩⟩
theorem orc_47:OB 47 Tryz.f47:=fun n h=>orc_body n rfl rfl rfl Tryz.func47 h
@[simp] theorem e48:EQ 48 [] live48 kill48 [] [] []:=⟨rfl,fun _=>⟨rfl,rfl,rfl,rfl,rfl⟩⟩
theorem orc_48:OB 48 Tryz.f48:=fun n h=>orc_body n rfl rfl rfl Tryz.func48 h
@[simp] theorem e49:EQ 49 [] live49 kill49 [] [] []:=⟨rfl,fun _=>⟨rfl,rfl,rfl,rfl,rfl⟩⟩
theorem orc_49:OB 49 Tryz.f49:=fun n h=>orc_body n rfl rfl rfl Tryz.func49 h
@[simp] theorem e51:EQ 51 [] live51 kill51 [] [] []:=⟨rfl,fun _=>⟨rfl,rfl,rfl,rfl,rfl⟩⟩
theorem orc_51:OB 51 Tryz.f51:=fun n h=>orc_body n rfl rfl rfl Tryz.func51 h
@[simp] theorem e52:EQ 52 [] live52 kill52 [] [] []:=⟨rfl,fun _=>⟨rfl,rfl,rfl,rfl,rfl⟩⟩
theorem orc_52:OB 52 Tryz.f52:=fun n h=>orc_body n rfl rfl rfl Tryz.func52 h
@[simp] theorem e53:EQ 53 [] live53 kill53 [] [] []:=⟨rfl,fun _=>⟨rfl,rfl,rfl,rfl,rfl⟩⟩
theorem orc_53:OB 53 Tryz.f53:=fun n h=>orc_body n rfl rfl rfl Tryz.func53 h
@[simp] theorem e54:EQ 54 [] live54 kill54 [] [] []:=⟨rfl,fun _=>⟨rfl,rfl,rfl,rfl,rfl⟩⟩
theorem orc_54:OB 54 Tryz.f54:=fun n h=>orc_body n rfl rfl rfl Tryz.func54 h
@[simp] theorem e55:EQ 55 [] live55 kill55 [] [] []:=⟨rfl,fun _=>⟨rfl,rfl,rfl,rfl,rfl⟩⟩
theorem orc_55:OB 55 Tryz.f55:=fun n h=>orc_body n rfl rfl rfl Tryz.func55 h
@[simp] theorem e56:EQ 56 [] live56 kill56 [] [] []:=⟨rfl,fun _=>⟨rfl,rfl,rfl,rfl,rfl⟩⟩
theorem orc_56:OB 56 Tryz.f56:=fun n h=>orc_body n rfl rfl rfl Tryz.func56 h
@[simp] theorem e57:EQ 57 [] live57 kill57 [] [] []:=⟨rfl,fun _=>⟨rfl,rfl,rfl,rfl,rfl⟩⟩
theorem orc_57:OB 57 Tryz.f57:=fun n h=>orc_body n rfl rfl rfl Tryz.func57 h
@[simp] theorem e58:EQ 58 [] live58 kill58 [] [] []:=⟨rfl,fun _=>⟨rfl,rfl,rfl,rfl,rfl⟩⟩
theorem orc_58:OB 58 Tryz.f58:=fun n h=>orc_body n rfl rfl rfl Tryz.func58 h
@[simp] theorem e59:EQ 59 [] live59 kill59 [] [] []:=⟨rfl,fun _=>⟨rfl,rfl,rfl,rfl,rfl⟩⟩
theorem orc_59:OB 59 Tryz.f59:=fun n h=>orc_body n rfl rfl rfl Tryz.func59 h
@[simp] theorem e60:EQ 60 [] live60 kill60 [] [] []:=⟨rfl,fun _=>⟨rfl,rfl,rfl,rfl,rfl⟩⟩
theorem orc_60:OB 60 Tryz.f60:=fun n h=>orc_body n rfl rfl rfl Tryz.func60 h
@[simp] theorem e61:EQ 61 [] live61 kill61 [] [] []:=⟨rfl,fun _=>⟨rfl,rfl,rfl,rfl,rfl⟩⟩
theorem orc_61:OB 61 Tryz.f61:=fun n h=>orc_body n rfl rfl rfl Tryz.func61 h
@[simp] theorem e62:EQ 62 [] live62 kill62 [] [] []:=⟨rfl,fun _=>⟨rfl,rfl,rfl,rfl,rfl⟩⟩
theorem orc_62:OB 62 Tryz.f62:=fun n h=>orc_body n rfl rfl rfl Tryz.func62 h
@[simp] theorem e63:EQ 63 [] live63 kill63 [] [] []:=⟨rfl,fun _=>⟨rfl,rfl,rfl,rfl,rfl⟩⟩
theorem orc_63:OB 63 Tryz.f63:=fun n h=>orc_body n rfl rfl rfl Tryz.func63 h
@[simp] theorem e64:EQ 64 [] live64 kill64 pairs64 [] []:=⟨rfl,fun _=>⟨rfl,rfl,rfl,rfl,rfl⟩⟩
theorem orc_64:OB 64 Tryz.f64:=fun n h=>orc_body n rfl rfl rfl Tryz.func64 h
@[simp] theorem e65:EQ 65 [] live65 kill65 [] [] []:=⟨rfl,fun _=>⟨rfl,rfl,rfl,rfl,rfl⟩⟩
theorem orc_65:OB 65 Tryz.f65:=fun n h=>orc_body n rfl rfl rfl Tryz.func65 h
@[simp] theorem e66:EQ 66 [] live66 kill66 [] [] []:=⟨rfl,fun _=>⟨rfl,rfl,rfl,rfl,rfl⟩⟩
theorem orc_66:OB 66 Tryz.f66:=fun n h=>orc_body n rfl rfl rfl Tryz.func66 h
@[simp] theorem e67:EQ 67 [] live67 kill67 [] [] []:=⟨rfl,fun _=>⟨rfl,rfl,rfl,rfl,rfl⟩⟩
theorem orc_67:OB 67 Tryz.f67:=fun n h=>orc_body n rfl rfl rfl Tryz.func67 h
@[simp] theorem e69:EQ 69 [] live69 kill69 [] [] []:=⟨rfl,fun _=>⟨rfl,rfl,rfl,rfl,rfl⟩⟩
theorem orc_69:OB 69 Tryz.f69:=fun n h=>orc_body n rfl rfl rfl Tryz.func69 h
@[simp] theorem e70:EQ 70 [] live70 kill70 [] [] []:=⟨rfl,fun _=>⟨rfl,rfl,rfl,rfl,rfl⟩⟩
theorem orc_70:OB 70 Tryz.f70:=fun n h=>orc_body n rfl rfl rfl Tryz.func70 h
@[simp] theorem e74:EQ 74 [] live74 kill74 [] [] []:=⟨rfl,fun _=>⟨rfl,rfl,rfl,rfl,rfl⟩⟩
theorem orc_74:OB 74 Tryz.f74:=fun n h=>orc_body n rfl rfl rfl Tryz.func74 h
@[simp] theorem e75:EQ 75 [] live75 kill75 [] [] []:=⟨rfl,fun _=>⟨rfl,rfl,rfl,rfl,rfl⟩⟩
theorem orc_75:OB 75 Tryz.f75:=fun n h=>orc_body n rfl rfl rfl Tryz.func75 h
@[simp] theorem e76:EQ 76 [] live76 kill76 [] [] []:=⟨rfl,fun _=>⟨rfl,rfl,rfl,rfl,rfl⟩⟩
theorem orc_76:OB 76 Tryz.f76:=fun n h=>orc_body n rfl rfl rfl Tryz.func76 h
@[simp] theorem e77:EQ 77 [] live77 kill77 [] [] []:=⟨rfl,fun _=>⟨rfl,rfl,rfl,rfl,rfl⟩⟩
theorem orc_77:OB 77 Tryz.f77:=fun n h=>orc_body n rfl rfl rfl Tryz.func77 h
@[simp] theorem e78:EQ 78 [] live78 kill78 [] [] []:=⟨rfl,fun _=>⟨rfl,rfl,rfl,rfl,rfl⟩⟩
theorem orc_78:OB 78 Tryz.f78:=fun n h=>orc_body n rfl rfl rfl Tryz.func78 h
@[simp] theorem e79:EQ 79 [] live79 kill79 [] [] []:=⟨rfl,fun _=>⟨rfl,rfl,rfl,rfl,rfl⟩⟩
theorem orc_79:OB 79 Tryz.f79:=fun n h=>orc_body n rfl rfl rfl Tryz.func79 h
@[simp] theorem e80:EQ 80 [] live80 kill80 [] [] []:=⟨rfl,fun _=>⟨rfl,rfl,rfl,rfl,rfl⟩⟩
theorem orc_80:OB 80 Tryz.f80:=fun n h=>orc_body n rfl rfl rfl Tryz.func80 h
@[simp] theorem e81:EQ 81 [] live81 kill81 [] [] []:=⟨rfl,fun _=>⟨rfl,rfl,rfl,rfl,rfl⟩⟩
theorem orc_81:OB 81 Tryz.f81:=fun n h=>orc_body n rfl rfl rfl Tryz.func81 h
@[simp] theorem e82:EQ 82 [] live82 kill82 [] [] []:=⟨rfl,fun _=>⟨rfl,rfl,rfl,rfl,rfl⟩⟩
theorem orc_82:OB 82 Tryz.f82:=fun n h=>orc_body n rfl rfl rfl Tryz.func82 h
@[simp] theorem e83:EQ 83 [] live83 kill83 pairs83 [] []:=⟨rfl,fun _=>⟨rfl,rfl,rfl,rfl,rfl⟩⟩
theorem orc_83:OB 83 Tryz.f83:=fun n h=>orc_body n rfl rfl rfl Tryz.func83 h
@[simp] theorem e84:EQ 84 [] live84 kill84 [] [] []:=⟨rfl,fun _=>⟨rfl,rfl,rfl,rfl,rfl⟩⟩
theorem orc_84:OB 84 Tryz.f84:=fun n h=>orc_body n rfl rfl rfl Tryz.func84 h
@[simp] theorem e85:EQ 85 [] live85 kill85 [] [] []:=⟨rfl,fun _=>⟨rfl,rfl,rfl,rfl,rfl⟩⟩
theorem orc_85:OB 85 Tryz.f85:=fun n h=>orc_body n rfl rfl rfl Tryz.func85 h
@[simp] theorem e86:EQ 86 [] live86 kill86 [] [] []:=⟨rfl,fun _=>⟨rfl,rfl,rfl,rfl,rfl⟩⟩
theorem orc_86:OB 86 Tryz.f86:=fun n h=>orc_body n rfl rfl rfl Tryz.func86 h
@[simp] theorem e87:EQ 87 [] live87 kill87 [] [] []:=⟨rfl,fun _=>⟨rfl,rfl,rfl,rfl,rfl⟩⟩
theorem orc_87:OB 87 Tryz.f87:=fun n h=>orc_body n rfl rfl rfl Tryz.func87 h
@[simp] theorem e91:EQ 91 [] live91 kill91 [] [] []:=⟨rfl,fun _=>⟨rfl,rfl,rfl,rfl,rfl⟩⟩
theorem orc_91:OB 91 Tryz.f91:=fun n h=>orc_body n rfl rfl rfl Tryz.func91 h
@[simp] theorem e92:EQ 92 [] live92 kill92 [] [] []:=⟨rfl,fun _=>⟨rfl,rfl,rfl,rfl,rfl⟩⟩
theorem orc_92:OB 92 Tryz.f92:=fun n h=>orc_body n rfl rfl rfl Tryz.func92 h
@[simp] theorem e93:EQ 93 [] live93 kill93 [] [] []:=⟨rfl,fun _=>⟨rfl,rfl,rfl,rfl,rfl⟩⟩
theorem orc_93:OB 93 Tryz.f93:=fun n h=>orc_body n rfl rfl rfl Tryz.func93 h
@[simp] theorem e94:EQ 94 [] live94 kill94 [] [] []:=⟨rfl,fun _=>⟨rfl,rfl,rfl,rfl,rfl⟩⟩
theorem orc_94:OB 94 Tryz.f94:=fun n h=>orc_body n rfl rfl rfl Tryz.func94 h
@[simp] theorem e95:EQ 95 [] live95 kill95 [] [] []:=⟨rfl,fun _=>⟨rfl,rfl,rfl,rfl,rfl⟩⟩
theorem orc_95:OB 95 Tryz.f95:=fun n h=>orc_body n rfl rfl rfl Tryz.func95 h
@[simp] theorem e96:EQ 96 [] live96 kill96 pairs96 [] []:=⟨rfl,fun _=>⟨rfl,rfl,rfl,rfl,rfl⟩⟩
theorem orc_96:OB 96 Tryz.f96:=fun n h=>orc_body n rfl rfl rfl Tryz.func96 h
@[simp] theorem e97:EQ 97 [] live97 kill97 [] [] []:=⟨rfl,fun _=>⟨rfl,rfl,rfl,rfl,rfl⟩⟩
theorem orc_97:OB 97 Tryz.f97:=fun n h=>orc_body n rfl rfl rfl Tryz.func97 h
@[simp] theorem e98:EQ 98 [] live98 kill98 [] [] []:=⟨rfl,fun _=>⟨rfl,rfl,rfl,rfl,rfl⟩⟩
theorem orc_98:OB 98 Tryz.f98:=fun n h=>orc_body n rfl rfl rfl Tryz.func98 h
@[simp] theorem e99:EQ 99 [] live99 kill99 [] [] []:=⟨rfl,fun _=>⟨rfl,rfl,rfl,rfl,rfl⟩⟩
theorem orc_99:OB 99 Tryz.f99:=fun n h=>orc_body n rfl rfl rfl Tryz.func99 h
@[simp] theorem e100:EQ 100 [] live100 kill100 [] [] []:=⟨rfl,fun _=>⟨rfl,rfl,rfl,rfl,rfl⟩⟩
theorem orc_100:OB 100 Tryz.f100:=fun n h=>orc_body n rfl rfl rfl Tryz.func100 h
@[simp] theorem e101:EQ 101 [.R,.M] live101 kill101 pairs101 [] []:=⟨rfl,fun _=>⟨rfl,rfl,rfl,rfl,rfl⟩⟩
theorem orc_101:OB 101 Tryz.f101:=fun n h=>orc_body n rfl rfl rfl Tryz.func101 h
@[simp] theorem e102:EQ 102 [] live102 kill102 [] [] []:=⟨rfl,fun _=>⟨rfl,rfl,rfl,rfl,rfl⟩⟩
theorem orc_102:OB 102 Tryz.f102:=fun n h=>orc_body n rfl rfl rfl Tryz.func102 h
@[simp] theorem e103:EQ 103 [] live103 kill103 pairs103 [] []:=⟨rfl,fun _=>⟨rfl,rfl,rfl,rfl,rfl⟩⟩
theorem orc_103:OB 103 Tryz.f103:=fun n h=>orc_body n rfl rfl rfl Tryz.func103 h
@[simp] theorem e104:EQ 104 [] live104 kill104 [] [] []:=⟨rfl,fun _=>⟨rfl,rfl,rfl,rfl,rfl⟩⟩
theorem orc_104:OB 104 Tryz.f104:=fun n h=>orc_body n rfl rfl rfl Tryz.func104 h
@[simp] theorem e105:EQ 105 [] live105 kill105 [] [] []:=⟨rfl,fun _=>⟨rfl,rfl,rfl,rfl,rfl⟩⟩
theorem orc_105:OB 105 Tryz.f105:=fun n h=>orc_body n rfl rfl rfl Tryz.func105 h
@[simp] theorem e106:EQ 106 [] live106 kill106 [] [] []:=⟨rfl,fun _=>⟨rfl,rfl,rfl,rfl,rfl⟩⟩
theorem orc_106:OB 106 Tryz.f106:=fun n h=>orc_body n rfl rfl rfl Tryz.func106 h
@[simp] theorem e107:EQ 107 [] live107 kill107 pairs107 [] []:=⟨rfl,fun _=>⟨rfl,rfl,rfl,rfl,rfl⟩⟩
theorem orc_107:OB 107 Tryz.f107:=fun n h=>orc_body n rfl rfl rfl Tryz.func107 h
@[simp] theorem e114:EQ 114 [] live114 kill114 [] [] []:=⟨rfl,fun _=>⟨rfl,rfl,rfl,rfl,rfl⟩⟩
theorem orc_114:OB 114 Tryz.f114:=fun n h=>orc_body n rfl rfl rfl Tryz.func114 h
@[simp] theorem e115:EQ 115 [] live115 kill115 [] [] []:=⟨rfl,fun _=>⟨rfl,rfl,rfl,rfl,rfl⟩⟩
theorem orc_115:OB 115 Tryz.f115:=fun n h=>orc_body n rfl rfl rfl Tryz.func115 h
@[simp] theorem e116:EQ 116 [] live116 kill116 [] [] []:=⟨rfl,fun _=>⟨rfl,rfl,rfl,rfl,rfl⟩⟩
theorem orc_116:OB 116 Tryz.f116:=fun n h=>orc_body n rfl rfl rfl Tryz.func116 h
@[simp] theorem e117:EQ 117 [] live117 kill117 [] [] []:=⟨rfl,fun _=>⟨rfl,rfl,rfl,rfl,rfl⟩⟩
theorem orc_117:OB 117 Tryz.f117:=fun n h=>orc_body n rfl rfl rfl Tryz.func117 h
@[simp] theorem e118:EQ 118 [] live118 kill118 [] [] []:=⟨rfl,fun _=>⟨rfl,rfl,rfl,rfl,rfl⟩⟩
theorem orc_118:OB 118 Tryz.f118:=fun n h=>orc_body n rfl rfl rfl Tryz.func118 h
@[simp] theorem e119:EQ 119 [] live119 kill119 [] [] []:=⟨rfl,fun _=>⟨rfl,rfl,rfl,rfl,rfl⟩⟩
theorem orc_119:OB 119 Tryz.f119:=fun n h=>orc_body n rfl rfl rfl Tryz.func119 h
@[simp] theorem e120:EQ 120 [] live120 kill120 [] [] []:=⟨rfl,fun _=>⟨rfl,rfl,rfl,rfl,rfl⟩⟩
theorem orc_120:OB 120 Tryz.f120:=fun n h=>orc_body n rfl rfl rfl Tryz.func120 h
@[simp] theorem e121:EQ 121 [] live121 kill121 [] [] []:=⟨rfl,fun _=>⟨rfl,rfl,rfl,rfl,rfl⟩⟩
theorem orc_121:OB 121 Tryz.f121:=fun n h=>orc_body n rfl rfl rfl Tryz.func121 h
@[simp] theorem e122:EQ 122 [] live122 kill122 [] [] []:=⟨rfl,fun _=>⟨rfl,rfl,rfl,rfl,rfl⟩⟩
theorem orc_122:OB 122 Tryz.f122:=fun n h=>orc_body n rfl rfl rfl Tryz.func122 h
@[simp] theorem e123:EQ 123 [] live123 kill123 [] [] []:=⟨rfl,fun _=>⟨rfl,rfl,rfl,rfl,rfl⟩⟩
theorem orc_123:OB 123 Tryz.f123:=fun n h=>orc_body n rfl rfl rfl Tryz.func123 h
@[simp] theorem e124:EQ 124 [] live124 kill124 [] [] []:=⟨rfl,fun _=>⟨rfl,rfl,rfl,rfl,rfl⟩⟩
theorem orc_124:OB 124 Tryz.f124:=fun n h=>orc_body n rfl rfl rfl Tryz.func124 h
@[simp] theorem e125:EQ 125 [] live125 kill125 [] [] []:=⟨rfl,fun _=>⟨rfl,rfl,rfl,rfl,rfl⟩⟩
theorem orc_125:OB 125 Tryz.f125:=fun n h=>orc_body n rfl rfl rfl Tryz.func125 h
@[simp] theorem e126:EQ 126 [] live126 kill126 [] [] []:=⟨rfl,fun _=>⟨rfl,rfl,rfl,rfl,rfl⟩⟩
theorem orc_126:OB 126 Tryz.f126:=fun n h=>orc_body n rfl rfl rfl Tryz.func126 h
@[simp] theorem e127:EQ 127 [] live127 kill127 [] [] []:=⟨rfl,fun _=>⟨rfl,rfl,rfl,rfl,rfl⟩⟩
theorem orc_127:OB 127 Tryz.f127:=fun n h=>orc_body n rfl rfl rfl Tryz.func127 h
@[simp] theorem e128:EQ 128 [.M,.R] live128 kill128 pairs128 [] []:=⟨rfl,fun _=>⟨rfl,rfl,rfl,rfl,rfl⟩⟩
theorem orc_128:OB 128 Tryz.f128:=fun n h=>orc_body n rfl rfl rfl Tryz.func128 h
@[simp] theorem e129:EQ 129 [.M] live129 kill129 [] [] []:=⟨rfl,fun _=>⟨rfl,rfl,rfl,rfl,rfl⟩⟩
theorem orc_129:OB 129 Tryz.f129:=fun n h=>orc_body n rfl rfl rfl Tryz.func129 h
@[simp] theorem e130:EQ 130 [] live130 kill130 [] [] []:=⟨rfl,fun _=>⟨rfl,rfl,rfl,rfl,rfl⟩⟩
theorem orc_130:OB 130 Tryz.f130:=fun n h=>orc_body n rfl rfl rfl Tryz.func130 h
@[simp] theorem e131:EQ 131 [] live131 kill131 [] [] []:=⟨rfl,fun _=>⟨rfl,rfl,rfl,rfl,rfl⟩⟩
theorem orc_131:OB 131 Tryz.f131:=fun n h=>orc_body n rfl rfl rfl Tryz.func131 h
@[simp] theorem e132:EQ 132 [] live132 kill132 [] [] []:=⟨rfl,fun _=>⟨rfl,rfl,rfl,rfl,rfl⟩⟩
theorem orc_132:OB 132 Tryz.f132:=fun n h=>orc_body n rfl rfl rfl Tryz.func132 h
@[simp] theorem e133:EQ 133 [] live133 kill133 [] [] []:=⟨rfl,fun _=>⟨rfl,rfl,rfl,rfl,rfl⟩⟩
theorem orc_133:OB 133 Tryz.f133:=fun n h=>orc_body n rfl rfl rfl Tryz.func133 h
@[simp] theorem e134:EQ 134 [] live134 kill134 [] [] []:=⟨rfl,fun _=>⟨rfl,rfl,rfl,rfl,rfl⟩⟩
theorem orc_134:OB 134 Tryz.f134:=fun n h=>orc_body n rfl rfl rfl Tryz.func134 h
@[simp] theorem e135:EQ 135 [] live135 kill135 [] [] []:=⟨rfl,fun _=>⟨rfl,rfl,rfl,rfl,rfl⟩⟩
theorem orc_135:OB 135 Tryz.f135:=fun n h=>orc_body n rfl rfl rfl Tryz.func135 h
@[simp] theorem e136:EQ 136 [] live136 kill136 [] [] []:=⟨rfl,fun _=>⟨rfl,rfl,rfl,rfl,rfl⟩⟩
theorem orc_136:OB 136 Tryz.f136:=fun n h=>orc_body n rfl rfl rfl Tryz.func136 h
@[simp] theorem e137:EQ 137 [] live137 kill137 [] [] []:=⟨rfl,fun _=>⟨rfl,rfl,rfl,rfl,rfl⟩⟩
theorem orc_137:OB 137 Tryz.f137:=fun n h=>orc_body n rfl rfl rfl Tryz.func137 h
@[simp] theorem e143:EQ 143 [] live143 kill143 [] [] []:=⟨rfl,fun _=>⟨rfl,rfl,rfl,rfl,rfl⟩⟩
theorem orc_143:OB 143 Tryz.f143:=fun n h=>orc_body n rfl rfl rfl Tryz.func143 h
@[simp] theorem e144:EQ 144 [] live144 kill144 [] [] []:=⟨rfl,fun _=>⟨rfl,rfl,rfl,rfl,rfl⟩⟩
theorem orc_144:OB 144 Tryz.f144:=fun n h=>orc_body n rfl rfl rfl Tryz.func144 h
@[simp] theorem e145:EQ 145 [.R,.R,.V] live145 kill145 [] [24,38] []:=⟨rfl,fun _=>⟨rfl,rfl,rfl,rfl,rfl⟩⟩
theorem orc_145:OB 145 Tryz.f145:=fun n h=>orc_body n rfl rfl rfl Tryz.func145 h
@[simp] theorem e146:EQ 146 [] live146 kill146 [] [] []:=⟨rfl,fun _=>⟨rfl,rfl,rfl,rfl,rfl⟩⟩
theorem orc_146:OB 146 Tryz.f146:=fun n h=>orc_body n rfl rfl rfl Tryz.func146 h
@[simp] theorem e147:EQ 147 [] live147 kill147 [] [] []:=⟨rfl,fun _=>⟨rfl,rfl,rfl,rfl,rfl⟩⟩
theorem orc_147:OB 147 Tryz.f147:=fun n h=>orc_body n rfl rfl rfl Tryz.func147 h
@[simp] theorem e148:EQ 148 [] live148 kill148 [] [] []:=⟨rfl,fun _=>⟨rfl,rfl,rfl,rfl,rfl⟩⟩
theorem orc_148:OB 148 Tryz.f148:=fun n h=>orc_body n rfl rfl rfl Tryz.func148 h
@[simp] theorem e149:EQ 149 [] live149 kill149 [] [] []:=⟨rfl,fun _=>⟨rfl,rfl,rfl,rfl,rfl⟩⟩
theorem orc_149:OB 149 Tryz.f149:=fun n h=>orc_body n rfl rfl rfl Tryz.func149 h
@[simp] theorem e150:EQ 150 [] live150 kill150 pairs150 [] []:=⟨rfl,fun _=>⟨rfl,rfl,rfl,rfl,rfl⟩⟩
theorem orc_150:OB 150 Tryz.f150:=fun n h=>orc_body n rfl rfl rfl Tryz.func150 h
@[simp] theorem e151:EQ 151 [] live151 kill151 [] [] []:=⟨rfl,fun _=>⟨rfl,rfl,rfl,rfl,rfl⟩⟩
theorem orc_151:OB 151 Tryz.f151:=fun n h=>orc_body n rfl rfl rfl Tryz.func151 h
@[simp] theorem e152:EQ 152 [] live152 kill152 [] [] []:=⟨rfl,fun _=>⟨rfl,rfl,rfl,rfl,rfl⟩⟩
theorem orc_152:OB 152 Tryz.f152:=fun n h=>orc_body n rfl rfl rfl Tryz.func152 h
@[simp] theorem e155:EQ 155 [] live155 kill155 [] [] []:=⟨rfl,fun _=>⟨rfl,rfl,rfl,rfl,rfl⟩⟩
theorem orc_155:OB 155 Tryz.f155:=fun n h=>orc_body n rfl rfl rfl Tryz.func155 h
@[simp] theorem e156:EQ 156 [] live156 kill156 [] [] []:=⟨rfl,fun _=>⟨rfl,rfl,rfl,rfl,rfl⟩⟩
theorem orc_156:OB 156 Tryz.f156:=fun n h=>orc_body n rfl rfl rfl Tryz.func156 h
end Go.TM.It
