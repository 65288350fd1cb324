/- Of the tree machine: its evaluator and why it is sound. -/
import Derived.Tactics
import Derived.Laws.World
import Derived.Laws.Cells
import Derived.Calls
import Derived.Laws.BytesArg
set_option linter.unusedSimpArgs false
set_option linter.unusedVariables false
namespace Go.TM
open Go
def theWords:List (List Value):=[[.string ⟨#[108,105,118,101]⟩],[.string ⟨#[101,110,100,101,100]⟩],[.string ⟨#[102,97,105,108,101,100]⟩]]
def theArr:Nat→Option (TypeId×List (List Value)):=fun g=>if g=0 then some (9,theWords) else none
def thePows:List Value:=(List.range 20).map fun i=>.int .u64 ((10 ^ i:Nat):Int)
def theGl:Nat→Option (List Value→Prop):=fun g=>if g=0 then some (fun vs=>vs=theWords.flatten) else if g=1 then some (fun vs=>vs=thePows) else none
theorem theArr_gl:∀ g e rows,theArr g=some (e,rows)→theGl g=some (fun vs=>vs=rows.flatten):=fun g e rows h=>by
 unfold theArr at h
 split at h
 ·simp only[Option.some.injEq,Prod.mk.injEq] at h
  obtain⟨-,rfl⟩:=h
  rename_i h0
  subst h0
  rfl
 ·simp at h
inductive T where
 | v (x:Value)
 | agg (cs:List T)
 | tup (cs:List T)
 | sl (e:TypeId) (es:List (List T))
 | own (e:TypeId) (es:List (List T))
 | ref (d ver:Nat) (path:List (Nat×Nat)) (c n:Nat)
 | ptr (d ver:Nat) (path:List (Nat×Nat)) (off:Nat)
 | bx (d ver:Nat) (path:List (Nat×Nat)) (off:Nat)
 | ipt (cs:List T)
 | clo (f:FuncId) (caps:List T)
 | dead
 | hdr (n:Nat)
 | obx (cs:List T)
 deriving Inhabited
structure TInfo where
 size:Nat
 agg:Bool
 int:Bool
 elem:Option TypeId
 fields:List (Nat×Nat)
 ftys:List TypeId
 zero:List T
 bytes:Nat
 deriving Inhabited
inductive Mode where
 | R | M | V | L | P | B | N
 deriving DecidableEq,Inhabited
structure Root where
 ver:Nat
 hver:Nat
 real:Bool
 cells:List T
 deriving Inhabited
structure Arg where
 t:T
 root:Option Root
 deriving Inhabited
structure Res where
 ret:T
 outs:List (Nat×List T)
 clean:Bool
 deriving Inhabited
structure View where
 elem:TypeId
 args:List Arg
 deriving Inhabited
structure Env where
 P:Program
 ti:TypeId→Option TInfo
 mode:FuncId→List Mode
 keep:FuncId→Tmp→Bool
 live:FuncId→Nat→Option (List Tmp×List Tmp)
 take:FuncId→Tmp→Bool
 ext:FuncId→Option (List Arg→Option Res)
 good:FuncId→Bool
 pairs:FuncId→Nat→List (Nat×Nat)
 kill:FuncId→Nat→List (List Tmp)
 clr:FuncId→Nat→Bool:=fun _ _=>false
 view:FuncId→Option View:=fun _=>none
def lk {α:Type}:List (Nat×α)→Nat→Option α
 | [],_=>none
 | (k,x)::r,d=>if k=d then some x else lk r d
def up {α:Type}:List (Nat×α)→Nat→α→List (Nat×α)
 | [],d,x=>[(d,x)]
 | (k,y)::r,d,x=>if k=d then (d,x)::r else if d<k then (d,x)::(k,y)::r else (k,y)::up r d x
def only {α:Type} (ds:List Nat):List (Nat×α)→List (Nat×α)
 | []=>[]
 | (k,x)::r=>if ds.contains k then (k,x)::only ds r else only ds r
def pureRun {α:Type} (P:Program):Sem α→Option α
 | .pure a=>some a
 | .program k=>pureRun P (k P)
 | .mark _ k=>pureRun P k
 | _=>none
inductive Rd (α:Type) where
 | ret (a:α)
 | fail
 | cell (h:Bool) (d ver c:Nat) (k:T→Rd α)
 | root (h:Bool) (d ver:Nat) (k:Root→Rd α)
 | stamp (h:Bool) (d ver:Nat) (k:Nat→Rd α)
structure Tag {α:Type} (a:α):Type where
 mk ::
def Rd.bind {α β:Type}:Rd α→(f:α→Rd β)→(_:Tag f:=.mk)→Rd β
 | .ret a,f,_=>f a
 | .fail,_,_=>.fail
 | .cell h d v c k,f,_=>.cell h d v c fun t=>(k t).bind f
 | .root h d v k,f,_=>.root h d v fun r=>(k r).bind f
 | .stamp h d v k,f,_=>.stamp h d v fun r=>(k r).bind f
def Root.at_ (h:Bool) (r:Root):Nat:=if h then r.hver else r.ver
def Rd.run {α:Type} (rt:List (Nat×Root)):Rd α→Option α
 | .ret a=>some a
 | .fail=>none
 | .cell h d v c k=>
  match lk rt d with
  | some r=>if r.at_ h=v then (match r.cells[c]? with | some t=>(k t).run rt | none=>none) else none
  | none=>none
 | .root h d v k=>
  match lk rt d with
  | some r=>if r.at_ h=v then (k r).run rt else none
  | none=>none
 | .stamp h d v k=>
  match lk rt d with
  | some r=>if r.at_ h=v then (k r.hver).run rt else none
  | none=>none
def Rd.touched {α:Type} (rt:List (Nat×Root)):Rd α→List (Bool×Nat×Option Nat)
 | .ret _=>[]
 | .fail=>[]
 | .cell h d v c k=>(h,d,some c) ::
  match lk rt d with
  | some r=>if r.at_ h=v then (match r.cells[c]? with | some t=>(k t).touched rt | none=>[]) else []
  | none=>[]
 | .root h d v k=>(h,d,none) ::
  match lk rt d with
  | some r=>if r.at_ h=v then (k r).touched rt else []
  | none=>[]
 | .stamp h d v k=>(true,d,some 1000000000)::(h,d,some 1000000000) ::
  match lk rt d with
  | some r=>if r.at_ h=v then (k r.hver).touched rt else []
  | none=>[]
def Rd.of {α:Type}:Option α→Rd α
 | some a=>.ret a
 | none=>.fail
def Rd.mapM {α β:Type} (f:α→Rd β):List α→Rd (List β)
 | []=>.ret []
 | a::as=>(f a).bind fun b=>(Rd.mapM f as).bind fun bs=>.ret (b::bs)
def descend:List T→List (Nat×Nat)→Option (List T)
 | cs,[]=>some cs
 | cs,(c,i)::rest=>
  match cs[c]? with
  | some (.own _ es)=>match es[i]? with | some cs'=>descend cs' rest | none=>none
  | _=>none
def graft (f:List T→Option (List T)):List T→List (Nat×Nat)→Option (List T)
 | cs,[]=>f cs
 | cs,(c,i)::rest=>
  match cs[c]? with
  | some (.own e es)=>
   match es[i]? with
   | some cs'=>match graft f cs' rest with | some cs''=>some (cs.set c (.own e (es.set i cs''))) | none=>none
   | none=>none
  | _=>none
def view1 (d ver:Nat) (path:List (Nat×Nat)) (k:Nat):T→T
 | .own _ es=>.ref d ver path k es.length
 | .agg _=>.dead
 | .tup _=>.dead
 | .obx _=>.dead
 | t=>t
def isDead:T→Bool
 | .dead=>true
 | _=>false
def cell1:T→Bool
 | .agg _ | .tup _ | .obx _=>false
 | _=>true
def viewFrom (d ver:Nat) (path:List (Nat×Nat)):Nat→List T→List T
 | _,[]=>[]
 | k,t::ts=>view1 d ver path k t::viewFrom d ver path (k+1) ts
mutual
def seal_:T→T
 | .own e es=>.sl e (sealEs es)
 | .agg cs=>.agg (sealL cs)
 | .tup cs=>.tup (sealL cs)
 | .obx cs=>.ipt (sealL cs)
 | t=>t
def sealL:List T→List T
 | []=>[]
 | t::ts=>seal_ t::sealL ts
def sealEs:List (List T)→List (List T)
 | []=>[]
 | c::cs=>sealL c::sealEs cs
end
mutual
def clean:T→Bool
 | .v _=>true
 | .hdr _=>true
 | .own _ es=>cleanEs es
 | .agg cs=>cleanL cs
 | .tup cs=>cleanL cs
 | _=>false
def cleanL:List T→Bool
 | []=>true
 | t::ts=>clean t&&cleanL ts
def cleanEs:List (List T)→Bool
 | []=>true
 | c::cs=>cleanL c&&cleanEs cs
end
def closed1:T→Bool
 | .v _ | .sl .. | .own .. | .ipt _=>true
 | .clo _ caps=>caps.isEmpty
 | _=>false
def flat1:T→Bool
 | .v _ | .sl .. | .ipt _=>true
 | _=>false
def isOwn:T→Bool
 | .own ..=>true
 | _=>false
def anyOwn:List T→Bool
 | []=>false
 | t::ts=>isOwn t||anyOwn ts
def T.cells:T→List T
 | .agg cs=>cs
 | t=>[t]
def valsOf:List T→Option (List Value)
 | []=>some []
 | .v x::ts=>match valsOf ts with | some xs=>some (x::xs) | none=>none
 | _::_=>none
def toVal:T→Option Value
 | .v x=>some x
 | .agg cs=>match valsOf cs with | some xs=>some (.agg xs.toArray) | none=>none
 | _=>none
structure CSet where
 d:Nat
 c:Nat
 t:T
 hdr:Bool
 deriving Inhabited
structure Eff where
 val:T
 root:Option Root:=none
 sets:List CSet:=[]
 deriving Inhabited
def rdPlace (d ver:Nat) (path:List (Nat×Nat)) (c:Nat):Rd T:=
 match path with
 | []=>.cell true d ver c .ret
 | (c0,i)::rest=>.cell true d ver c0 fun t=>
  match descend [t] ((0,i)::rest) with
  | some cs=>match cs[c]? with | some t=>.ret t | none=>.fail
  | none=>.fail
def rdCells (d ver:Nat):Nat→Nat→Rd (List T)
 | _,0=>.ret []
 | off,n+1=>.cell false d ver off fun t=>(rdCells d ver (off+1) n).bind fun ts=>.ret (t::ts)
def rdRow (d ver:Nat) (path:List (Nat×Nat)) (off n:Nat):Rd (List T):=
 match path with
 | []=>rdCells d ver off n
 | (c0,i)::rest=>.cell true d ver c0 fun t=>
  match descend [t] ((0,i)::rest) with
  | some cs=>if off+n≤cs.length then .ret ((cs.drop off).take n) else .fail
  | none=>.fail
def content (d ver:Nat) (path:List (Nat×Nat)) (c n:Nat):Rd (TypeId×List (List T)):=
 (rdPlace d ver path c).bind fun t=>
  match t with
  | .own e es=>if es.length=n then .ret (e,es) else .fail
  | _=>.fail
def splice (cs:List T) (off:Nat) (xs:List T):List T:=cs.take off++xs++cs.drop (off+xs.length)
def setRow (d:Nat):Nat→List T→List CSet
 | _,[]=>[]
 | k,x::xs=>⟨d,k,x,isOwn x⟩::setRow d (k+1) xs
def wrRow (d ver:Nat) (path:List (Nat×Nat)) (off:Nat) (xs:List T):Rd (List CSet):=
 match path with
 | []=>(rdCells d ver off xs.length).bind fun _=>.ret (setRow d off xs)
 | (c0,i)::rest=>if xs.all closed1 then .cell true d ver c0 fun t=>
   match graft (fun cs=>if off+xs.length≤cs.length then some (splice cs off xs) else none) [t] ((0,i)::rest) with
   | some [t']=>.ret [⟨d,c0,t',anyOwn xs⟩]
   | _=>.fail
  else .fail
def takeRef (d ver:Nat) (path:List (Nat×Nat)) (c n:Nat):Rd ((TypeId×List (List T))×CSet):=
 match path with
 | []=>.cell true d ver c fun t=>
  match t with
  | .own e es=>if es.length=n then .ret ((e,es),⟨d,c,.dead,false⟩) else .fail
  | _=>.fail
 | (c0,i)::rest=>.cell true d ver c0 fun t=>
  match descend [t] ((0,i)::rest),graft (fun cs=>some (cs.set c .dead)) [t] ((0,i)::rest) with
  | some cs,some [t']=>
   match cs[c]? with
   | some (.own e es)=>if es.length=n then .ret ((e,es),⟨d,c0,t',false⟩) else .fail
   | _=>.fail
  | _,_=>.fail
def oneVal:Value→Bool
 | .agg _ | .tuple _=>false
 | _=>true
def inline1 (tk:Nat→Bool) (t:T):Rd (T×List CSet):=
 match t with
 | .ref d ver path c n=>.root true d ver fun r=>
  if path=[]∧r.cells.length≤c then .ret (.hdr n,[])
  else if r.real&&!tk d then .fail else (takeRef d ver path c n).bind fun r=>.ret (.own r.1.1 r.1.2,[r.2])
 | .v x=>if oneVal x then .ret (.v x,[]) else .fail
 | .sl e es=>.ret (.sl e es,[])
 | .own e []=>.ret (.own e [],[])
 | .ipt cs=>.ret (.ipt cs,[])
 | .clo f []=>.ret (.clo f [],[])
 | _=>.fail
def inlineL (tk:Nat→Bool):List T→Rd (List T×List CSet)
 | []=>.ret ([],[])
 | t::ts=>(inline1 tk t).bind fun r=>(inlineL tk ts).bind fun rs=>.ret (r.1::rs.1,r.2++rs.2)
def deep1:T→Option (Nat×Nat×Nat)
 | .ref d ver (q::_) _ _=>some (d,ver,q.1)
 | _=>none
def anyDeep:List T→Bool
 | []=>false
 | t::ts=>(deep1 t).isSome||anyDeep ts
def deepOf:List T→Option (Nat×Nat×Nat)
 | []=>none
 | t::ts=>match deep1 t with | some p=>if anyDeep ts=true then some p else none | none=>deepOf ts
def takes (d ver c0 z:Nat):T→List T→Option (List T×T)
 | t,[]=>some ([],t)
 | t,x::xs=>
  match x with
  | .ref d' ver' [] c n=>if d'=d∧ver'=ver∧z≤c then (match takes d ver c0 z t xs with | some r=>some (.hdr n::r.1,r.2) | none=>none) else none
  | .ref d' ver' ((c0',i)::rest) c n=>
   if d'=d∧ver'=ver∧c0'=c0 then
    match descend [t] ((0,i)::rest),graft (fun cs=>some (cs.set c .dead)) [t] ((0,i)::rest) with
    | some cs,some [t']=>
     match cs[c]? with
     | some (.own e es)=>if es.length=n then (match takes d ver c0 z t' xs with | some r=>some (.own e es::r.1,r.2) | none=>none) else none
     | _=>none
    | _,_=>none
   else none
  | .v y=>if oneVal y=true then (match takes d ver c0 z t xs with | some r=>some (.v y::r.1,r.2) | none=>none) else none
  | _=>none
def inlineR (tk:Nat→Bool) (ts:List T):Rd (List T×List CSet):=
 match deepOf ts with
 | some p=>.root true p.1 p.2.1 fun r=>if r.real&&!tk p.1 then .fail else .cell true p.1 p.2.1 p.2.2 fun t=>
  match takes p.1 p.2.1 p.2.2 r.cells.length t ts with
  | some r=>.ret (r.1,[⟨p.1,p.2.2,r.2,false⟩])
  | none=>.fail
 | none=>inlineL tk ts
def seal0 (t:T):Rd (T×List Nat):=
 match t with
 | .ref d ver path c n=>(content d ver path c n).bind fun r=>.ret (.sl r.1 (sealEs r.2),[d])
 | .own e es=>.ret (.sl e (sealEs es),[])
 | .v x=>.ret (.v x,[])
 | .sl e es=>.ret (.sl e es,[])
 | .ipt cs=>.ret (.ipt cs,[])
 | .clo f []=>.ret (.clo f [],[])
 | .dead=>.ret (.dead,[])
 | _=>.fail
def sealCells (f:T→Rd (T×List Nat)):List T→Rd (List T×List Nat)
 | []=>.ret ([],[])
 | t::ts=>(f t).bind fun r=>(sealCells f ts).bind fun rs=>.ret (r.1::rs.1,r.2++rs.2)
def sealP (d ver:Nat) (path:List (Nat×Nat)) (off:Nat):Rd (T×List Nat):=
 match path with
 | []=>.root false d ver fun r0=>if off≤r0.cells.length then (sealCells seal0 (r0.cells.drop off)).bind fun r=>.ret (.ipt r.1,d::r.2) else .fail
 | (c0,i)::rest=>.cell true d ver c0 fun t=>
  match descend [t] ((0,i)::rest) with
  | some cs=>if off≤cs.length then .ret (.ipt (sealL (cs.drop off)),[d]) else .fail
  | none=>.fail
def seal1 (t:T):Rd (T×List Nat):=
 match t with
 | .ptr d ver path off=>sealP d ver path off
 | .bx d ver path off=>(sealP d ver path off).bind fun r=>.ret (.ipt [r.1],r.2)
 | t=>seal0 t
def seal2 (t:T):Rd (T×List Nat):=
 match t with
 | .agg cs=>(sealCells seal1 cs).bind fun r=>.ret (.agg r.1,r.2)
 | .clo f caps=>(sealCells seal1 caps).bind fun r=>.ret (.clo f r.1,r.2)
 | t=>seal1 t
def tupView (d ver:Nat):Nat→List T→List T
 | _,[]=>[]
 | k,.agg cs::ts=>.agg (viewFrom d ver [] k cs)::tupView d ver (k+cs.length) ts
 | k,t::ts=>view1 d ver [] k t::tupView d ver (k+1) ts
def tupCells:List T→List T
 | []=>[]
 | t::ts=>t.cells++tupCells ts
def bare:T→T
 | .own e es=>.own e es
 | _=>.dead
def rooted (d tick:Nat) (t:T):Eff:=
 match t with
 | .own e es=>{ val:=.ref d tick [] 0 es.length,root:=some ⟨tick,tick,false,[.own e es]⟩ }
 | .agg cs=>if anyOwn cs then { val:=.agg (viewFrom d tick [] 0 cs),root:=some ⟨tick,tick,false,cs.map bare⟩ } else { val:=.agg (viewFrom d tick [] 0 cs) }
 | .tup ts=>if anyOwn (tupCells ts) then { val:=.tup (tupView d tick 0 ts),root:=some ⟨tick,tick,false,(tupCells ts).map bare⟩ } else { val:=.tup (tupView d tick 0 ts) }
 | .v x=>{ val:=.v x }
 | .sl e es=>{ val:=.sl e es }
 | .ipt cs=>{ val:=.ipt cs }
 | .obx cs=>{ val:=.ptr d tick [] 0,root:=some ⟨tick,tick,true,cs⟩ }
 | _=>{ val:=.dead }
def Eff.with (e:Eff) (s:List CSet):Eff:={ e with sets:=e.sets++s }
structure Lends where
 args:List Arg
 used:List Nat
 lent:List (Nat×Nat)
 sets:List CSet
def nilOf (E:Env) (ty:TypeId):T→T
 | .v (.slice none 0 0)=>match E.ti ty with | some { elem:=some e,.. }=>.own e [] | _=>.v (.slice none 0 0)
 | t=>t
def mkArg (E:Env) (i:Nat) (m:Mode) (ty:TypeId) (t:T):Rd (Arg×List Nat×List (Nat×Nat)×List CSet):=
 match m with
 | .R=>(seal2 (nilOf E ty t)).bind fun r=>.ret (⟨r.1,none⟩,r.2,[],[])
 | .M=>match t with
  | .ptr d ver [] 0=>.root false d ver fun r=>
   if r.real then .ret (⟨.ptr i 0 [] 0,some ⟨0,1,true,r.cells⟩⟩,[],[(i,d)],[]) else .fail
  | _=>.fail
 | .V=>match nilOf E ty t with
  | .ref d ver path c n=>(takeRef d ver path c n).bind fun r=>.ret (⟨.ref i 0 [] 0 n,some ⟨0,0,false,[.own r.1.1 r.1.2]⟩⟩,[],[],[r.2])
  | .own e es=>.ret (⟨.ref i 0 [] 0 es.length,some ⟨0,0,false,[.own e es]⟩⟩,[],[],[])
  | .agg cs=>(inlineL (fun _=>false) cs).bind fun r=>.ret (⟨.agg (viewFrom i 0 [] 0 r.1),some ⟨0,0,false,r.1.map bare⟩⟩,[],[],r.2)
  | _=>.fail
 | .L=>.fail
 | .B=>.fail
 | .N=>.fail
 | .P=>match t with
  | .v x=>.ret (⟨.v x,none⟩,[],[],[])
  | _=>.fail
def mkArgs (E:Env):Nat→List Mode→List TypeId→List T→Rd Lends
 | _,_,_,[]=>.ret ⟨[],[],[],[]⟩
 | i,ms,tys,t::ts=>
  (mkArg E i (ms.headD .R) (tys.headD 0) t).bind fun a=>
  (mkArgs E (i+1) (ms.drop 1) (tys.drop 1) ts).bind fun r=>
   .ret ⟨a.1::r.args,a.2.1++r.used,a.2.2.1++r.lent,a.2.2.2++r.sets⟩
def distinct:List Nat→Bool
 | []=>true
 | d::ds=>!ds.contains d&&distinct ds
def lentRow (d:Nat):Nat→List T→List CSet
 | _,[]=>[]
 | k,x::xs=>⟨d,k,x,true⟩::lentRow d (k+1) xs
def comeBack (args:List Arg):List (Nat×List T)→List (Nat×Nat)→Option (List CSet)
 | [],[]=>some []
 | (i,cs)::os,(j,d)::ls=>
  if i=j then
   match (args[j]?).bind (·.root) with
   | some ro=>
    if cs.length=ro.cells.length∧cs.isEmpty=false then
     match comeBack args os ls with | some s=>some (lentRow d 0 cs++s) | none=>none
    else none
   | none=>none
  else none
 | _,_=>none
def sealRes (keep:Bool) (d tick:Nat) (t:T):Eff:=if keep then rooted d tick t else { val:=seal_ t }
def callEff0 (E:Env) (call:FuncId→List Arg→Option Res) (me:FuncId) (d tick:Nat) (f:FuncId) (tys:List TypeId) (ts:List T):Rd Eff:=
 (mkArgs E 0 (E.mode f) tys ts).bind fun l=>
  if distinct (l.lent.map (·.2))&&(l.lent.map (·.2)).all (fun d=>!(l.sets.map (·.d)).contains d)&&l.used.all (fun u=>!(l.lent.map (·.2)).contains u&&!(l.sets.map (·.d)).contains u) then
   match call f l.args with
   | some r=>
    if (r.clean&&r.outs.all (fun o=>cleanL o.2))||l.used.isEmpty then
     match comeBack l.args r.outs l.lent with
     | some s=>.ret ((sealRes (E.keep me d) d tick r.ret).with (l.sets++s))
     | none=>.fail
    else .fail
   | none=>.fail
  else .fail
def lends:List Mode→Bool
 | .L::_=>true
 | _=>false
def lendCell (d ver k:Nat) (t c:T):Option T:=
 match t,c with
 | .ref d' v' [] c' n,.own e es=>if d'=d∧v'=ver∧c'=k∧n=es.length then some (.own e es) else none
 | .v x,_=>if oneVal x=true then some (.v x) else none
 | _,_=>none
def lendRow (d ver:Nat):Nat→List T→List T→Option (List T)
 | _,[],_=>some []
 | k,t::ts,c::cs=>
  match lendCell d ver k t c with
  | some x=>match lendRow d ver (k+1) ts cs with | some xs=>some (x::xs) | none=>none
  | none=>none
 | _,_::_,[]=>none
def firstRef:Nat→List T→Option (Nat×Nat×Nat)
 | _,[]=>none
 | j,t::ts=>
  match t with
  | .ref d ver [] c _=>if j≤c then some (d,ver,c - j) else none
  | _=>firstRef (j+1) ts
def putRow (d:Nat):Nat→List T→List CSet
 | _,[]=>[]
 | k,t::ts=>if isOwn t then ⟨d,k,t,false⟩::putRow d (k+1) ts else putRow d (k+1) ts
def putBack (d ver:Nat) (path:List (Nat×Nat)) (c:Nat) (t:T):Rd CSet:=
 match path with
 | []=>.ret ⟨d,c,t,false⟩
 | (c0,i)::rest=>.cell true d ver c0 fun t0=>
  match graft (fun cs=>some (cs.set c t)) [t0] ((0,i)::rest) with
  | some [t']=>.ret ⟨d,c0,t',false⟩
  | _=>.fail
def valArg (y:Value):Arg:=⟨.v y,none⟩
def lendOne (call:FuncId→List Arg→Option Res) (f:FuncId) (d ver:Nat) (path:List (Nat×Nat)) (c n:Nat) (xs:List T):Rd Eff:=
 (content d ver path c n).bind fun q=>(Rd.of (valsOf xs)).bind fun ys=>
  match call f (⟨.ref 0 0 [] 0 n,some ⟨0,0,false,[.own q.1 q.2]⟩⟩::ys.map valArg) with
  | some r=>
   match r.ret,r.outs with
   | .v x,[(0,[.own e es])]=>(putBack d ver path c (.own e es)).bind fun s=>.ret { val:=.v x,sets:=[s] }
   | _,_=>.fail
  | none=>.fail
def lendMany (call:FuncId→List Arg→Option Res) (f:FuncId) (cs:List T) (xs:List T):Rd Eff:=
 (Rd.of (firstRef 0 cs)).bind fun p=>.root true p.1 p.2.1 fun r0=>
 (Rd.of (lendRow p.1 p.2.1 p.2.2 cs (r0.cells.drop p.2.2))).bind fun row=>(Rd.of (valsOf xs)).bind fun ys=>
  match call f (⟨.agg (viewFrom 0 0 [] 0 row),some ⟨0,0,false,row.map bare⟩⟩::ys.map valArg) with
  | some r=>
   match r.ret,r.outs with
   | .v x,[(0,row')]=>if row'.map isOwn=row.map isOwn then .ret { val:=.v x,sets:=putRow p.1 p.2.2 row' } else .fail
   | _,_=>.fail
  | none=>.fail
def lendEff (call:FuncId→List Arg→Option Res) (f:FuncId) (ts:List T):Rd Eff:=
 match ts with
 | .ref d ver path c n::xs=>lendOne call f d ver path c n xs
 | .agg cs::xs=>lendMany call f cs xs
 | _=>.fail
structure Way where
 i:Nat
 d:Nat
 ver:Nat
 path:List (Nat×Nat)
 off:Nat
 n:Nat
 deriving Inhabited
def isN:Mode→Bool
 | .N=>true
 | _=>false
def far (ms:List Mode):Bool:=ms.any isN
def placeN (d ver:Nat) (path:List (Nat×Nat)) (off:Nat):Rd (List T):=
 match path with
 | []=>.root false d ver fun r0=>if r0.real then .ret (r0.cells.drop off) else .fail
 | (c0,i)::rest=>.cell true d ver c0 fun t0=>match descend [t0] ((0,i)::rest) with | some cs=>.ret (cs.drop off) | none=>.fail
def rowN (d:Nat):Nat→List T→List CSet
 | _,[]=>[]
 | k,t::ts=>⟨d,k,t,false⟩::rowN d (k+1) ts
def putN (d ver:Nat) (path:List (Nat×Nat)) (off:Nat) (cs':List T):Rd (List CSet):=
 match path with
 | []=>.ret (rowN d off cs')
 | (c0,i)::rest=>.cell true d ver c0 fun t0=>match graft (fun cs=>some (cs.take off++cs')) [t0] ((0,i)::rest) with | some [t']=>.ret [⟨d,c0,t',false⟩] | _=>.fail
structure FarArgs where
 args:List Arg
 used:List Nat
 way:List Way
def farArgs (E:Env):Nat→List Mode→List TypeId→List T→Rd FarArgs
 | _,_,_,[]=>.ret ⟨[],[],[]⟩
 | i,ms,tys,t::ts=>
  if isN (ms.headD .R)=true then
   match t with
   | .ptr d ver path off=>(placeN d ver path off).bind fun cs=>(farArgs E (i+1) (ms.drop 1) (tys.drop 1) ts).bind fun r=>
    .ret ⟨⟨.ptr i 0 [] 0,some ⟨0,0,true,cs⟩⟩::r.args,r.used,⟨i,d,ver,path,off,cs.length⟩::r.way⟩
   | _=>.fail
  else (seal2 (nilOf E (tys.headD 0) t)).bind fun a=>(farArgs E (i+1) (ms.drop 1) (tys.drop 1) ts).bind fun r=>.ret ⟨⟨a.1,none⟩::r.args,a.2++r.used,r.way⟩
def callFar (E:Env) (call:FuncId→List Arg→Option Res) (me:FuncId) (d tick:Nat) (f:FuncId) (tys:List TypeId) (ts:List T):Rd Eff:=
 (farArgs E 0 (E.mode f) tys ts).bind fun l=>
  match l.way with
  | [y]=>if l.used.contains y.d=true then .fail else
   match call f l.args with
   | some r=>
    match r.outs with
    | [(j,cs')]=>if j=y.i∧cs'.length=y.n∧cs'.isEmpty=false∧((r.clean&&cleanL cs')||l.used.isEmpty)=true then
      (putN y.d y.ver y.path y.off cs').bind fun s=>.ret ((sealRes (E.keep me d) d tick r.ret).with s) else .fail
    | _=>.fail
   | none=>.fail
  | _=>.fail
def stamp (tick d ver:Nat) (path:List (Nat×Nat)):Rd Nat:=
 .stamp (!path.isEmpty) d ver fun hv=>if hv<tick∨hv=ver then .ret hv else .fail
def viewable:List T→Bool
 | [.agg (.ref ..::_),_]=>true
 | _=>false
def viewEff (call:FuncId→List Arg→Option Res) (keep:Bool) (tick:Nat) (f:FuncId) (v:View) (ts:List T):Rd Eff:=
 match call f v.args with
 | some _=>
  match ts with
  | [.agg [.ref d ver path c n,_,_],.agg (.v (.int .i64 k)::xs)]=>
   (content d ver path c n).bind fun r=>if 0≤k∧k<n∧r.1=v.elem∧xs.length=5 then
    (rdRow d ver (path++[(c,k.toNat)]) 0 1).bind fun cs=>
     match cs with
     | [.own _ es]=>if keep=true then (stamp tick d ver (path++[(c,k.toNat)])).bind fun h=>.ret { val:=.ref d h (path++[(c,k.toNat)]) 0 es.length }
      else .root true d ver fun r=>.ret { val:=.ref d ver [] r.cells.length es.length }
     | _=>.fail
   else .fail
  | _=>.fail
 | none=>.fail
def callEff1 (E:Env) (call:FuncId→List Arg→Option Res) (me:FuncId) (d tick:Nat) (f:FuncId) (tys:List TypeId) (ts:List T):Rd Eff:=
 if lends (E.mode f)=true then lendEff call f ts else if far (E.mode f)=true then callFar E call me d tick f tys ts else callEff0 E call me d tick f tys ts
def viewOf (E:Env) (f:FuncId) (ts:List T):Option View:=
 match E.view f with
 | some v=>if viewable ts=true then some v else none
 | none=>none
theorem viewOf_some {E:Env} {f:FuncId} {ts:List T} {v:View} (h:viewOf E f ts=some v):E.view f=some v:=by
 unfold viewOf at h
 cases hv:E.view f with
 | none=>rw[hv] at h;simp at h
 | some v'=>
  rw[hv] at h
  simp only at h
  split at h
  ·exact h
  ·simp at h
def callEff (E:Env) (call:FuncId→List Arg→Option Res) (me:FuncId) (d tick:Nat) (f:FuncId) (tys:List TypeId) (ts:List T):Rd Eff:=
 match viewOf E f ts with
 | some v=>viewEff call (E.keep me d) tick f v ts
 | none=>callEff1 E call me d tick f tys ts
def intArg:T→Option Int
 | .v (.int _ n)=>some n
 | _=>none
def boundOf (ts:List T) (dflt:Int):Option Int:=
 match ts with
 | []=>some dflt
 | t::_=>intArg t
def cap1:T→Bool
 | .v _ | .sl .. | .ref .. | .ptr .. | .bx .. | .ipt _=>true
 | _=>false
def maxElems:Nat:=2 ^ 32
def sliceLen:T→Option Nat
 | .hdr n=>some n
 | .ref _ _ _ _ n=>some n
 | .sl _ es=>some es.length
 | .v (.slice none 0 0)=>some 0
 | _=>none
def bytesT (s:ByteArray):List (List T):=s.data.toList.map fun b=>[.v (.int .u8 b.toNat)]
def vw:T→T
 | .own ..=>.dead
 | .obx _=>.dead
 | .agg _=>.dead
 | .tup _=>.dead
 | t=>t
def one1:T→Bool
 | .v x=>oneVal x
 | .sl .. | .own .. | .ipt _=>true
 | .clo _ []=>true
 | _=>false
def srcOf (e:TypeId) (sz:Nat) (t:T):Rd (List (List T)×List CSet):=
 match t with
 | .ref d ver path c n=>.root true d ver fun r0=>
  if r0.real||!path.isEmpty then (content d ver path c n).bind fun r=>if r.1=e∧r.2.all (·.all flat1)=true then .ret (r.2,[]) else .fail
  else (takeRef d ver path c n).bind fun r=>if r.1.1=e then .ret (r.1.2,[r.2]) else .fail
 | .sl e' es=>if e'=e then .ret (es,[]) else .fail
 | .v (.slice _ 0 _)=>.ret ([],[])
 | .v (.string s)=>if sz=1 then .ret (bytesT s,[]) else .fail
 | _=>.fail
def dstOf (e:TypeId) (t:T):Rd (List (List T)×List CSet):=
 match t with
 | .ref d ver path c n=>(takeRef d ver path c n).bind fun r=>if r.1.1=e then .ret (r.1.2,[r.2]) else .fail
 | .v (.slice none 0 0)=>.ret ([],[])
 | _=>.fail
def notNil (op:BinOp) (i:TInfo) (b:Value):Rd Eff:=
 match op,b with
 | .eql,.slice none 0 0=>if i.elem.isSome then .ret { val:=.v (.bool false) } else .fail
 | _,_=>.fail
def zerosOf (d tick:Nat) (e:TypeId) (ie:TInfo) (a b:T):Rd Eff:=
 match a,b with
 | .v (.slice none 0 0),.v (.int .i64 m)=>if 0<m∧m≤maxElems∧ie.bytes≤1000 then .ret (rooted d tick (.own e (List.replicate m.toNat ie.zero))) else .fail
 | _,_=>.fail
def loadT (E:Env) (tick:Nat) (ty:TypeId) (t:T):Rd T:=
 match E.ti ty with
 | none=>.fail
 | some i=>
  match t with
  | .ptr d ver path off=>(rdRow d ver path off i.size).bind fun cs=>
   if anyOwn cs then (stamp tick d ver path).bind fun h=>
    if i.agg then .ret (.agg (viewFrom d h path off cs)) else match cs with | [t]=>.ret (view1 d h path off t) | _=>.fail
   else if !cs.all cell1 then .fail else if i.agg then .ret (.agg cs) else match cs with | [t]=>.ret t | _=>.fail
  | .bx d ver path off=>if i.size=1∧i.agg=false then .ret (.ptr d ver path off) else .fail
  | .ipt cs=>if i.size≤cs.length then (if i.agg then .ret (.agg (cs.take i.size)) else match cs with | t::_=>if i.size=1 then .ret t else .fail | _=>.fail) else .fail
  | _=>.fail
def bytesOfT:List (List T)→Option (List UInt8)
 | []=>some []
 | [.v (.int .u8 n)]::r=>match bytesOfT r with | some bs=>some (UInt8.ofNat n.toNat::bs) | none=>none
 | _=>none
def fillParts (i:TInfo) (cells:List T):List (Nat×List T)→Option (List T)
 | []=>some cells
 | (k,xs)::r=>
  match i.fields[k]? with
  | some (off,size)=>if xs.length=size∧off+size≤cells.length then fillParts i (splice cells off xs) r else none
  | none=>none
def fillElems (size:Nat) (es:List (List T)):List (Nat×List T)→Option (List (List T))
 | []=>some es
 | (k,xs)::r=>if xs.length=size∧k<es.length then fillElems size (es.set k xs) r else none
def partCells (zero:List T) (t:T):List T:=
 match t with
 | .v (.slice none 0 0)=>match zero with | [.own e []]=>[.own e []] | _=>[t]
 | .v (.agg xs)=>xs.toList.map .v
 | .agg cs=>cs
 | .tup _=>[.dead]
 | .clo _ (_::_)=>[.dead]
 | t=>[t]
def zeroAt (i:TInfo) (k:Nat):List T:=
 match i.fields[k]? with
 | some (off,size)=>(i.zero.drop off).take size
 | none=>[]
def isU8Slice (src dst:TypeId):Sem Bool:=do
 match ← underlying src,←underlying dst with
 | .slice e,.string=>match ← underlying e with | .int .u8=>pure true | _=>pure false
 | _,_=>pure false
def plainEff (E:Env) (s:Sem Value):Rd Eff:=(Rd.of (pureRun E.P s)).bind fun x=>.ret { val:=.v x }
def evBuildParts (E:Env) (val:Operand→Option T):List (Nat×Operand)→Rd (List (Nat×T))
 | []=>.ret []
 | (k,x)::ps=>(Rd.of (val x)).bind fun t=>(evBuildParts E val ps).bind fun r=>.ret ((k,t)::r)
def evElems (tk:Nat→Bool) (zero:List T):List (Nat×T)→Rd (List (Nat×List T)×List CSet)
 | []=>.ret ([],[])
 | (k,t)::ps=>(inlineL tk (partCells zero t)).bind fun r=>(evElems tk zero ps).bind fun rs=>.ret ((k,r.1)::rs.1,r.2++rs.2)
def args (val:Operand→Option T):List Operand→Rd (List T)
 | []=>.ret []
 | x::xs=>(Rd.of (val x)).bind fun t=>(args val xs).bind fun ts=>.ret (t::ts)
def pickT (t:Bool) (a b:T):T:=if t then a else b
def isArr (ty e n:Nat):Sem Bool:=do
 match ← underlying ty with
 | .array m e'=>pure (m==n&&e'==e)
 | _=>pure false
def globOf (E:Env) (ty:TypeId) (x:Operand) (lo hi mx:Option Operand):Option T:=
 match x with
 | .global g=>
  if lo.isNone=true∧hi.isNone=true∧mx.isNone=true then
   match theArr g with
   | some p=>match E.ti p.1 with
    | some ie=>if pureRun E.P (isArr ty p.1 p.2.length)=some true∧p.2.all (fun r=>r.length==ie.size)=true then some (.sl p.1 (p.2.map (·.map T.v))) else none
    | none=>none
   | none=>none
  else none
 | .tmp _=>none
 | .const _=>none
 | .func _=>none
def globRows (E:Env) (ty:TypeId) (x:Operand):Option (List (List Value)):=
 match x with
 | .global g=>
  match theArr g with
  | some p=>match E.ti p.1 with
   | some ie=>if pureRun E.P (isArr ty p.1 p.2.length)=some true∧p.2.all (fun r=>r.length==ie.size)=true then some p.2 else none
   | none=>none
  | none=>none
 | .tmp _=>none
 | .const _=>none
 | .func _=>none
def evOp (E:Env) (call:FuncId→List Arg→Option Res) (me:FuncId) (val:Operand→Option T) (tick:Nat) (d:Nat) (ty0:TypeId) (op:Op):Rd Eff:=
  match op with
  | .move x=>(Rd.of (val x)).bind fun t=>.ret { val:=t }
  | .assign x=>(Rd.of (val x)).bind fun t=>
    match x,t with
    | .tmp s,.ref s' ver [] 0 n=>if s=s' then .root true s ver fun r0=>if r0.real then .ret { val:=t } else
        (takeRef s ver [] 0 n).bind fun r=>.ret ((rooted d tick (.own r.1.1 r.1.2)).with [r.2]) else .ret { val:=t }
    | _,_=>.ret { val:=t }
  | .pick c a b=>(Rd.of (val c)).bind fun c=>(Rd.of (val a)).bind fun a=>(Rd.of (val b)).bind fun b=>
    match c with | .v (.bool t)=>.ret { val:=pickT t a b } | _=>.fail
  | .alloc ty=>(Rd.of (E.ti ty)).bind fun i=>.ret { val:=.ptr d tick [] 0,root:=some ⟨tick,tick,true,i.zero⟩ }
  | .box ty x=>(Rd.of (E.ti ty)).bind fun i=>(Rd.of (val x)).bind fun t=>
    match t with
    | .ptr d0 ver path off=>.ret { val:=.bx d0 ver path off }
    | t=>(inlineR (E.take me) (partCells i.zero t)).bind fun r=>
      if r.1.length=i.size then .ret { val:=.ptr d tick [] 0,root:=some ⟨tick,tick,true,r.1⟩,sets:=r.2 } else .fail
  | .build ty parts=>(Rd.of (E.ti ty)).bind fun i=>(evBuildParts E val parts.toList).bind fun ps=>
    if i.fields.isEmpty||ps.any (fun p=>isDead p.2) then .fail else
    match fillParts i i.zero (ps.map fun p=>(p.1,partCells (zeroAt i p.1) p.2)) with
    | some cs=>.ret (rooted d tick (.agg cs))
    | none=>.fail
  | .buildSlice ty n parts=>(Rd.of (E.ti ty)).bind fun i=>(Rd.of i.elem).bind fun e=>(Rd.of (E.ti e)).bind fun ie=>
    (evBuildParts E val parts.toList).bind fun ps=>(evElems (E.take me) ie.zero ps).bind fun r=>
    if (r.1.all fun p=>p.2.all closed1)&&decide (n*ie.size≤16777216) then
      match fillElems ie.size (List.replicate n ie.zero) r.1 with
      | some es=>.ret ((rooted d tick (.own e es)).with r.2)
      | none=>.fail
    else .fail
  | .load ty a=>(Rd.of (val a)).bind fun t=>(loadT E tick ty t).bind fun t=>.ret { val:=t }
  | .store ty a x=>(Rd.of (val a)).bind fun a=>(Rd.of (val x)).bind fun t=>(Rd.of (E.ti ty)).bind fun i=>(inlineR (E.take me) (partCells i.zero t)).bind fun r=>
    if r.1.length=i.size then
      match a with
      | .ptr d ver path off=>(wrRow d ver path off r.1).bind fun s=>.ret { val:=.v undef,sets:=r.2++s }
      | _=>.fail
    else .fail
  | .nilCheck x=>(Rd.of (val x)).bind fun t=>
    match t with
    | .ptr .. | .ipt _=>.ret { val:=t }
    | _=>.fail
  | .binOp op ty x y _=>(Rd.of (val x)).bind fun tx=>
    match tx with
    | .sl _ (_::_)=>(Rd.of ((val y).bind toVal)).bind fun b=>(Rd.of (E.ti ty)).bind fun i=>notNil op i b
    | tx=>(Rd.of (toVal tx)).bind fun a=>(Rd.of ((val y).bind toVal)).bind fun b=>plainEff E (do eqGuard op ty x y a b;binOp op ty a b)
  | .unOp op _ x=>(Rd.of ((val x).bind toVal)).bind fun a=>plainEff E (Op.unary op a)
  | .convert src dst x=>(Rd.of (val x)).bind fun t=>
    match t with
    | .v (.string s)=>(Rd.of (E.ti dst)).bind fun i=>
      match i.elem with
      | some e=>(Rd.of (E.ti e)).bind fun ie=>if pureRun E.P (isU8Slice dst src)=some true∧ie.size=1 then .ret (rooted d tick (.own e (bytesT s))) else .fail
      | none=>plainEff E (convert src dst (.string s))
    | .sl _ es=>(Rd.of (bytesOfT es)).bind fun bs=>if pureRun E.P (isU8Slice src dst)=some true then .ret { val:=.v (.string ⟨bs.toArray⟩) } else .fail
    | .ref d ver path c n=>(content d ver path c n).bind fun r=>(Rd.of (bytesOfT r.2)).bind fun bs=>
      if pureRun E.P (isU8Slice src dst)=some true then .ret { val:=.v (.string ⟨bs.toArray⟩) } else .fail
    | .v x=>plainEff E (convert src dst x)
    | _=>.fail
  | .makeSlice ty n c=>(Rd.of (val n)).bind fun n=>(Rd.of (val c)).bind fun c=>(Rd.of (E.ti ty)).bind fun i=>(Rd.of i.elem).bind fun e=>(Rd.of (E.ti e)).bind fun ie=>
    match n,c with
    | .v (.int .i64 n),.v (.int .i64 c)=>if n=c∧0≤n∧n≤maxElems∧ie.bytes≤1000 then .ret (rooted d tick (.own e (List.replicate n.toNat ie.zero))) else .fail
    | _,_=>.fail
  | .fieldAddr ty x f=>(Rd.of (val x)).bind fun t=>(Rd.of (E.ti ty)).bind fun i=>(Rd.of i.fields[f]?).bind fun p=>
    if p.2=0 then .fail else
    match t with
    | .ptr d ver path o=>.ret { val:=.ptr d ver path (o+p.1) }
    | .ipt cs=>.ret { val:=.ipt (cs.drop p.1) }
    | _=>.fail
  | .field ty x f=>(Rd.of (val x)).bind fun t=>(Rd.of (E.ti ty)).bind fun i=>(Rd.of i.fields[f]?).bind fun p=>(Rd.of (i.ftys[f]?.bind E.ti)).bind fun it=>
    match t with
    | .agg cs=>if p.1+p.2≤cs.length∧p.2=it.size then
        (if it.agg then .ret { val:=.agg ((cs.drop p.1).take p.2) } else match cs[p.1]? with | some t=>if p.2=1 then .ret { val:=t } else .fail | none=>.fail) else .fail
    | _=>.fail
  | .indexAddr ty x ix=>match globRows E ty x with
   | some rows=>(Rd.of ((val ix).bind intArg)).bind fun n=>if 0≤n then (match rows[n.toNat]? with | some r=>.ret { val:=.ipt (r.map T.v) } | none=>.fail) else .fail
   | none=>(Rd.of (val x)).bind fun t=>(Rd.of ((val ix).bind intArg)).bind fun n=>(Rd.of (E.ti ty)).bind fun i=>(Rd.of i.elem).bind fun e=>(Rd.of (E.ti e)).bind fun ie=>
    match t with
    | .ref d ver path c m=>(content d ver path c m).bind fun r=>if 0≤n∧n<m∧r.1=e then .ret { val:=.ptr d ver (path++[(c,n.toNat)]) 0 } else .fail
    | .sl e' es=>if 0≤n∧e'=e then match es[n.toNat]? with | some cs=>if cs.length=ie.size then .ret { val:=.ipt cs } else .fail | none=>.fail else .fail
    | _=>.fail
  | .index ty x ix=>(Rd.of ((val x).bind toVal)).bind fun a=>(Rd.of ((val ix).bind toVal)).bind fun b=>plainEff E (Instr.index ty a b)
  | .slice ty x lo hi mx=>match globOf E ty x lo hi mx with | some t=>.ret { val:=t } | none=>(Rd.of (val x)).bind fun t=>(args val lo.toList).bind fun lo=>(args val hi.toList).bind fun hi=>(args val mx.toList).bind fun mx=>
    match t with
    | .v (.string s)=>(Rd.of (valsOf lo)).bind fun lo=>(Rd.of (valsOf hi)).bind fun hi=>if mx.isEmpty then plainEff E (Instr.sliceAt ty (.string s) lo.head? hi.head? none) else .fail
    | .sl e es=>(Rd.of (E.ti ty)).bind fun i=>(Rd.of (boundOf lo 0)).bind fun l=>(Rd.of (boundOf hi es.length)).bind fun h=>
      if i.elem≠some e then .fail
      else if mx.isEmpty∧0≤l∧l≤h∧h≤es.length then .ret { val:=.sl e ((es.drop l.toNat).take (h.toNat - l.toNat)) }
      else if !hi.isEmpty∧0≤l∧l=h∧h≤es.length∧boundOf mx (-1)=some l then .ret (rooted d tick (.own e []))
      else .fail
    | .v (.slice none 0 0)=>(Rd.of (valsOf lo)).bind fun lo=>(Rd.of (valsOf hi)).bind fun hi=>if mx.isEmpty then plainEff E (Instr.sliceAt ty (.slice none 0 0) lo.head? hi.head? none) else .fail
    | .ref d' ver path c n=>(Rd.of (E.ti ty)).bind fun i=>(Rd.of (boundOf lo 0)).bind fun l=>(Rd.of (boundOf hi n)).bind fun h=>(takeRef d' ver path c n).bind fun r=>
      if i.elem=some r.1.1∧mx.isEmpty∧l=0∧0≤h∧h≤n then .ret ((rooted d tick (.own r.1.1 (r.1.2.take h.toNat))).with [r.2]) else .fail
    | _=>.fail
  | .extract x k=>(Rd.of (val x)).bind fun t=>
    match t with
    | .tup ts=>(Rd.of ts[k]?).bind fun t=>.ret { val:=t }
    | .v (.tuple vs)=>(Rd.of vs[k]?).bind fun x=>.ret { val:=.v x }
    | _=>.fail
  | .makeFunc (.func f) first caps=>if first.isEmpty then (args val caps.toList).bind fun ts=>if ts.all cap1 then .ret { val:=.clo f ts } else .fail else .fail
  | .call c=>
    match c.callee with
    | .value g=>(Rd.of (val g)).bind fun tg=>(args val c.args.toList).bind fun ts=>
      match tg with
      | .v (.func (.func f) first caps)=>if first.isEmpty&&caps.isEmpty then callEff E call me d tick f c.argTypes.toList ts else .fail
      | .clo f caps=>callEff E call me d tick f c.argTypes.toList (ts++caps)
      | _=>.fail
    | .builtin .len=>(args val c.args.toList).bind fun ts=>
      match ts with
      | [t]=>match sliceLen t with
        | some n=>(Rd.of (c.argTypes[0]?.bind E.ti)).bind fun i=>if i.elem.isSome then .ret { val:=.v (.int .i64 n) } else .fail
        | none=>(Rd.of (toVal t)).bind fun x=>plainEff E (Builtin.len_ c.argTypes ty0 #[x])
      | _=>.fail
    | .builtin .append=>(args val c.args.toList).bind fun ts=>(Rd.of (c.argTypes[0]?.bind E.ti)).bind fun i=>(Rd.of i.elem).bind fun e=>(Rd.of (E.ti e)).bind fun ie=>
      match ts with
      | [a,b]=>(Rd.of (c.argTypes[1]?.bind E.ti)).bind fun ib=>if ib.int=true then zerosOf d tick e ie a b else (srcOf e ie.size b).bind fun s=>(dstOf e a).bind fun r=>
        if !ib.int∧s.1.all (·.all one1)=true∧r.1.length+s.1.length≤maxElems∧ie.bytes≤1000 then .ret ((rooted d tick (.own e (r.1++s.1))).with (r.2++s.2)) else .fail
      | _=>.fail
    | .builtin .cap=>(args val c.args.toList).bind fun ts=>(Rd.of (valsOf ts)).bind fun xs=>plainEff E (Builtin.cap_ c.argTypes ty0 xs.toArray)
    | .builtin .min=>(args val c.args.toList).bind fun ts=>(Rd.of (valsOf ts)).bind fun xs=>plainEff E (Builtin.min_ c.argTypes ty0 xs.toArray)
    | .builtin .max=>(args val c.args.toList).bind fun ts=>(Rd.of (valsOf ts)).bind fun xs=>plainEff E (Builtin.max_ c.argTypes ty0 xs.toArray)
    | _=>.fail
  | _=>.fail
structure St where
 n:Nat
 fr:List (Nat×T)
 rt:List (Nat×Root)
 tick:Nat
 deriving Inhabited
def St.val (fr:List (Nat×T)):Operand→Option T
 | .tmp t=>lk fr t
 | .const x=>some (.v x)
 | .func f=>some (.v (.func (.func f) #[] #[]))
 | .global _=>none
def nxt (tick:Nat) (r:Root):Nat:=if r.ver<tick then tick else tick+1
def setCell (tick:Nat) (rt:List (Nat×Root)) (s:CSet):List (Nat×Root):=
 match lk rt s.d with
 | some r=>up rt s.d { r with cells:=r.cells.set s.c s.t,hver:=if s.hdr then nxt tick r else r.hver }
 | none=>rt
def setCells (tick:Nat):List (Nat×Root)→List CSet→List (Nat×Root)
 | rt,[]=>rt
 | rt,s::ss=>setCells tick (setCell tick rt s) ss
def setsOk (tick:Nat) (rt:List (Nat×Root)):List CSet→Bool
 | []=>true
 | s::ss=>(!s.hdr||match lk rt s.d with | some r=>decide (r.ver≤tick) | none=>false)&&setsOk tick rt ss
def apartFrom (d c:Nat):List CSet→Bool
 | []=>true
 | s::ss=>!(s.d==d&&s.c==c)&&apartFrom d c ss
def setsApart:List CSet→Bool
 | []=>true
 | s::ss=>apartFrom s.d s.c ss&&setsApart ss
def newOk (tick:Nat) (rt:List (Nat×Root)) (d:Nat):Bool:=
 match lk rt d with
 | some r0=>decide (r0.ver<tick)
 | none=>true
def St.apply (st:St) (dst:Option Tmp) (e:Eff):Option St:=
 if setsOk st.tick st.rt e.sets&&setsApart e.sets then
  match dst with
  | none=>if e.root.isNone then some ⟨st.n,st.fr,setCells st.tick st.rt e.sets,st.tick⟩ else none
  | some d=>
   if d<st.n then
    match e.root with
    | none=>some ⟨st.n,up st.fr d e.val,setCells st.tick st.rt e.sets,st.tick⟩
    | some r=>if newOk st.tick st.rt d&&(r.ver==st.tick&&r.hver==st.tick) then some ⟨st.n,up st.fr d e.val,up (setCells st.tick st.rt e.sets) d r,st.tick⟩ else none
   else none
 else none
def gif {α:Type} (b:Bool) (x y:α):α:=if b=true then x else y
def wantV (w:Bool):Value→Option Bool
 | .bool b=>some (b==w)
 | .tuple _=>some false
 | _=>none
def wanted (ops:List Oper) (fr:List (Nat×T)) (g:Option (Nat×Bool)):Option Bool:=
 match g with
 | none=>some true
 | some (j,w)=>
  match (ops[j]?).bind (·.dst) with
  | none=>none
  | some t=>match lk fr t with
   | some (.v x)=>wantV w x
   | _=>none
def evOne (E:Env) (call:FuncId→List Arg→Option Res) (me:FuncId) (ops:List Oper) (st:St) (o:Oper):Option St:=
 match wanted ops st.fr o.guard with
 | some b=>(match gif b ((evOp E call me (St.val st.fr) st.tick (o.dst.getD 0) o.type o.op).run st.rt) (some { val:=.v undef }) with
  | some e=>st.apply o.dst e
  | none=>none)
 | none=>none
def evOps (E:Env) (call:FuncId→List Arg→Option Res) (me:FuncId) (ops:List Oper):List Oper→St→Option St
 | [],st=>some st
 | o::r,st=>match evOne E call me ops st o with | some st'=>evOps E call me ops r st' | none=>none
def without {α:Type} (ds:List Nat):List (Nat×α)→List (Nat×α)
 | []=>[]
 | (k,x)::r=>if ds.contains k then without ds r else (k,x)::without ds r
inductive Ex where
 | normal
 | exit (id:Nat)
 | ret
 deriving DecidableEq,Inhabited
def spent (r:Root):Bool:=!r.real&&r.cells.all isDead
def unspent:List (Nat×Root)→List (Nat×Root)
 | []=>[]
 | (k,x)::r=>if spent x then unspent r else (k,x)::unspent r
def stampOf (r:Root):Nat:=if r.ver=0 then 0 else 1
def hvOf (r:Root):Nat:=if r.hver=0 then 0 else 1
def reP (rt:List (Nat×Root)) (d v:Nat) (p:List (Nat×Nat)):Option Nat:=
 match p with
 | []=>match lk rt d with
  | some r=>if r.ver=v then some (stampOf r) else none
  | none=>none
 | _::_=>match lk rt d with
  | some r=>if r.hver=v then some (hvOf r) else none
  | none=>none
def re0 (rt:List (Nat×Root)) (t:T):T:=
 match t with
 | .bx d v p o=>match reP rt d v p with | some s=>.bx d s p o | none=>.dead
 | .ref d v p c n=>match lk rt d with
  | some r=>if r.hver=v then .ref d (hvOf r) p c n else .dead
  | none=>.dead
 | .ptr d v p o=>match p with
  | []=>match lk rt d with
   | some r=>if r.ver=v then .ptr d (stampOf r) [] o else .dead
   | none=>.dead
  | q::qs=>match lk rt d with
   | some r=>if r.hver=v then .ptr d (hvOf r) (q::qs) o else .dead
   | none=>.dead
 | t=>t
def re1 (rt:List (Nat×Root)) (t:T):T:=
 match t with
 | .agg cs=>.agg (cs.map (re0 rt))
 | .clo f cs=>.clo f (cs.map (re0 rt))
 | t=>re0 rt t
def reX (rt:List (Nat×Root)) (t:T):T:=
 match t with
 | .tup cs=>.tup (cs.map (re1 rt))
 | t=>re1 rt t
def reFr (rt:List (Nat×Root)):List (Nat×T)→List (Nat×T)
 | []=>[]
 | (d,t)::r=>(d,reX rt t)::reFr rt r
def reRt:List (Nat×Root)→List (Nat×Root)
 | []=>[]
 | (d,r)::rs=>(d,{ r with ver:=stampOf r,hver:=hvOf r })::reRt rs
def strike (l:Option (List Tmp×List Tmp)) (st:St):St:=
 match l with
 | none=>⟨st.n,reFr (unspent st.rt) st.fr,reRt (unspent st.rt),2⟩
 | some l=>⟨st.n,reFr (only l.2 (unspent st.rt)) (only l.1 st.fr),reRt (only l.2 (unspent st.rt)),2⟩
def ownLen (cs:List T) (c n:Nat):Bool:=match cs[c]? with | some (.own _ es)=>es.length==n | _=>false
def fresh (s:Option Nat) (o:Oper) (st st2:St):St:=
 match o.op with
 | .store _ (.tmp p) _=>
  match lk st.fr p with
  | some (.ptr d _ (_::_) _)=>
   match lk st.fr (s.getD d) with
   | some (.ref d' v [] c n)=>
    match lk st.rt d with
    | some r=>
     match lk st2.rt d with
     | some r2=>if d'=d∧r.hver=v∧r2.hver<st2.tick∧ownLen r.cells c n=true∧o.guard.isNone=true∧o.dst.isNone=true then ⟨st2.n,up st2.fr (s.getD d) (.ref d r2.hver [] c n),st2.rt,st2.tick⟩ else st2
     | none=>st2
    | none=>st2
   | _=>st2
  | _=>st2
 | _=>st2
def restamp:List Tmp→Option Nat
 | []=>none
 | k::r=>if 2000000≤k then some (k - 2000000) else restamp r
def pause (k:List Tmp) (o:Oper) (st0 st:St):St:=if k.contains 999999=true then (if k.contains 999998=true then fresh (restamp k) o st0 (strike none st) else strike none st) else st
def evOpsK (E:Env) (call:FuncId→List Arg→Option Res) (me:FuncId) (ops:List Oper):List (List Tmp)→List Oper→St→Option St
 | _,[],st=>some st
 | ks,o::r,st=>
  match evOne E call me ops st o with
  | some st'=>
   match ks with
   | []=>evOpsK E call me ops [] r st'
   | k::ks=>evOpsK E call me ops ks r (pause k o st ⟨st'.n,without k st'.fr,st'.rt,st'.tick⟩)
  | none=>none
structure Foot where
 dst:Nat
 lays:Bool
 sets:List CSet
 tch:List (Bool×Nat×Option Nat)
 deriving Inhabited
def footOf (E:Env) (call:FuncId→List Arg→Option Res) (me:FuncId) (ops:List Oper) (st:St) (o:Oper):Foot:=
 match wanted ops st.fr o.guard with
 | some b=>if b=true then (match (evOp E call me (St.val st.fr) st.tick (o.dst.getD 0) o.type o.op).run st.rt with
  | some e=>⟨o.dst.getD 0,e.root.isSome,e.sets,(evOp E call me (St.val st.fr) st.tick (o.dst.getD 0) o.type o.op).touched st.rt⟩
  | none=>⟨0,false,[],[]⟩) else ⟨o.dst.getD 0,false,[],[]⟩
 | none=>⟨0,false,[],[]⟩
def setHits (s:CSet):List (Bool×Nat×Option Nat)→Bool
 | []=>false
 | (h,d,c)::r=>(s.d==d&&(match c with | none=>true | some c=>s.c==c||(s.hdr&&h)))||setHits s r
def setsHit:List CSet→List (Bool×Nat×Option Nat)→Bool
 | [],_=>false
 | s::ss,t=>setHits s t||setsHit ss t
def layHits (d:Nat):List (Bool×Nat×Option Nat)→Bool
 | []=>false
 | (_,d',_)::r=>d==d'||layHits d r
def layMeets (d:Nat):List CSet→Bool
 | []=>false
 | s::ss=>s.d==d||layMeets d ss
def setsMeet:List CSet→List CSet→Bool
 | [],_=>false
 | s::ss,r=>!apartFrom s.d s.c r||setsMeet ss r
def upsets (f g:Foot):Bool:=setsHit f.sets g.tch||(f.lays&&(layHits f.dst g.tch||layMeets f.dst g.sets))
def clash (f g:Foot):Bool:=upsets f g||upsets g f||setsMeet f.sets g.sets
def evFeet (E:Env) (call:FuncId→List Arg→Option Res) (me:FuncId) (ops:List Oper) (ps:List (Nat×Nat)):Nat→List Oper→St→Option (St×List (Nat×Foot))
 | _,[],st=>some (st,[])
 | i,o::r,st=>
  match evOne E call me ops st o with
  | some st'=>
   match evFeet E call me ops ps (i+1) r st' with
   | some (F,fs)=>some (F,if ps.any (fun p=>p.1==i||p.2==i) then (i,footOf E call me ops st o)::fs else fs)
   | none=>none
  | none=>none
def noClash (fs:List (Nat×Foot)):List (Nat×Nat)→Bool
 | []=>true
 | (i,j)::ps=>(match lk fs i,lk fs j with | some f,some g=>!clash f g | _,_=>false)&&noClash fs ps
structure Clr where
 s:Nat
 i:Nat
 ty:TypeId
 x:Nat
 y:Nat
 u:Nat
def clearOf (ops:List Oper):Option Clr:=
 match ops with
 | [o1,o2,o3,o4]=>
  match o1.op,o2.op,o3.op,o4.op with
  | .move (.tmp s),.move (.tmp i),.slice ty (.tmp x) (some (.tmp y)) none none,.call c=>
   match c.callee,c.args.toList,c.argTypes.toList with
   | .builtin .clear,[.tmp u],[ty']=>
    if o1.dst=some x∧o2.dst=some y∧o3.dst=some u∧o4.dst=none∧ty'=ty∧x≠y∧x≠i∧o1.guard.isNone=true∧o2.guard.isNone=true∧o3.guard.isNone=true∧o4.guard.isNone=true then some ⟨s,i,ty,x,y,u⟩ else none
   | _,_,_=>none
  | _,_,_,_=>none
 | _=>none
def plainCell:T→Bool
 | .v x=>oneVal x
 | _=>false
def evClear (E:Env) (y:Clr) (st:St):Option St:=
 match lk st.fr y.s,lk st.fr y.i,(E.ti y.ty).bind (·.elem) with
 | some (.ref d ver [] c n),some (.v (.int .i64 k)),some e=>
  match E.ti e,lk st.rt d with
  | some ie,some r=>
   match r.cells[c]? with
   | some (.own e' es)=>
    if r.hver=ver∧e'=e∧es.length=n∧0≤k∧k<n∧es.all (·.all plainCell)=true∧ie.zero.all plainCell=true∧y.x<st.n∧y.y<st.n∧y.u<st.n then
     some ⟨st.n,without [y.x,y.y,y.u] st.fr,up st.rt d { r with cells:=r.cells.set c (.own e (es.take k.toNat++List.replicate (n - k.toNat) ie.zero)) },st.tick⟩
    else none
   | _=>none
  | _,_=>none
 | _,_,_=>none
def evRegion (E:Env) (call:FuncId→List Arg→Option Res) (me:FuncId) (id:Nat) (ops:List Oper) (draw:Bool) (st:St):Option St:=
 if E.clr me id=true then
  if draw=true then none else
  match clearOf ops with
  | some y=>match evClear E y st with | some st=>some (strike (E.live me id) st) | none=>none
  | none=>none
 else if draw=true then
  if (E.pairs me id).isEmpty=false then
   match evFeet E call me ops (E.pairs me id) 0 ops st with
   | some (st,fs)=>if noClash fs (E.pairs me id)=true then some (strike (E.live me id) st) else none
   | none=>none
  else
   match evOps E call me ops ops st with
   | some st=>some (strike (E.live me id) st)
   | none=>none
 else
  match evOpsK E call me ops (E.kill me id) ops st with
  | some st=>some (strike (E.live me id) st)
  | none=>none
def evCode (E:Env) (call:FuncId→List Arg→Option Res) (me:FuncId) (lp:Code→St→Option (Ex×St)):Code→St→Option (Ex×St)
 | .skip,st=>some (.normal,st)
 | .ret,st=>some (.ret,st)
 | .exit id,st=>some (.exit id,st)
 | .seq a b,st=>
  match evCode E call me lp a st with
  | some (.normal,st')=>evCode E call me lp b st'
  | r=>r
 | .cond c a b,st=>
  match St.val st.fr c with
  | some (.v (.bool t))=>if t=true then evCode E call me lp a st else evCode E call me lp b st
  | _=>none
 | .block id c,st=>
  match evCode E call me lp c st with
  | some (.exit i,st')=>some (if i=id then .normal else .exit i,st')
  | r=>r
 | .loop c,st=>lp c st
 | .region id ops dr,st=>match evRegion E call me id ops.toList dr st with | some st=>some (.normal,st) | none=>none
 | _,_=>none
def evLoop (E:Env) (call:FuncId→List Arg→Option Res) (me:FuncId):Nat→Code→St→Option (Ex×St)
 | 0,_,_=>none
 | k+1,c,st=>
  match evCode E call me (evLoop E call me k) c st with
  | some (.normal,st')=>evLoop E call me k c st'
  | r=>r
def close1 (t:T):Rd (T×List CSet):=
 match t with
 | .ref d ver path c n=>(takeRef d ver path c n).bind fun r=>.ret (.own r.1.1 r.1.2,[r.2])
 | .v x=>.ret (.v x,[])
 | .sl e es=>.ret (.sl e es,[])
 | .own e es=>.ret (.own e es,[])
 | _=>.fail
def initFr:Nat→List Arg→List (Nat×T)
 | _,[]=>[]
 | i,a::as=>(i,a.t)::initFr (i+1) as
def initRt:Nat→List Arg→List (Nat×Root)
 | _,[]=>[]
 | i,a::as=>match a.root with | some x=>(i,x)::initRt (i+1) as | none=>initRt (i+1) as
def closeL:List (Nat×Root)→List T→Option (List T×List (Nat×Root))
 | rt,[]=>some ([],rt)
 | rt,t::ts=>
  match (close1 t).run rt with
  | some (t',s)=>match closeL (setCells 0 rt s) ts with | some (ts',rt')=>some (t'::ts',rt') | none=>none
  | none=>none
def closeT (rt:List (Nat×Root)):T→Option (T×List (Nat×Root))
 | .agg cs=>match closeL rt cs with | some (cs',rt')=>some (.agg cs',rt') | none=>none
 | t=>match (close1 t).run rt with | some (t',s)=>some (t',setCells 0 rt s) | none=>none
def resOne (E:Env) (st:St) (rt:List (Nat×Root)):ResultVar×TypeId→Option (T×List (Nat×Root))
 | (.tmp t,ty)=>match lk st.fr t with | some t=>closeT rt (nilOf E ty t) | none=>none
 | (.cell _ _,_)=>none
def resAll (E:Env) (st:St):List (Nat×Root)→List (ResultVar×TypeId)→Option (List T×List (Nat×Root))
 | rt,[]=>some ([],rt)
 | rt,r::rs=>
  match resOne E st rt r with
  | some (t,rt')=>match resAll E st rt' rs with | some (ts,rt'')=>some (t::ts,rt'') | none=>none
  | none=>none
def del {α:Type}:List (Nat×α)→Nat→List (Nat×α)
 | [],_=>[]
 | (k,x)::r,d=>if k=d then del r d else (k,x)::del r d
def boxOut (rt:List (Nat×Root)) (t:Option T):Option (List T×List (Nat×Root)):=
 match t with
 | some (.ptr d ver [] 0)=>
  match lk rt d with
  | some r=>if r.real=true∧r.ver=ver∧0<r.cells.length then some ([.obx r.cells],del rt d) else none
  | none=>none
 | _=>none
def resTop (E:Env) (st:St):List (ResultVar×TypeId)→Option (List T×List (Nat×Root))
 | [(.cell a ty',_)]=>
  match lk st.fr a with
  | some p=>
   match (loadT E st.tick ty' p).run st.rt with
   | some t=>match closeT st.rt t with | some (t',rt')=>some ([t'],rt') | none=>none
   | none=>none
  | none=>none
 | [(.tmp t,ty)]=>match boxOut st.rt (lk st.fr t) with | some r=>some r | none=>resAll E st st.rt [(.tmp t,ty)]
 | rs=>resAll E st st.rt rs
def outsOf:Nat→List (Nat×Root)→List Arg→Option (List (Nat×List T))
 | _,_,[]=>some []
 | i,rt,a::as=>
  match a.root with
  | some r0=>
   if r0.real then
    match lk rt i with
    | some r=>
     if r.ver=0∧r.real=true∧r.cells.length=r0.cells.length∧(r0.hver≠0∨r.hver=0) then
      match outsOf (i+1) rt as with | some os=>some ((i,r.cells)::os) | none=>none
     else none
    | none=>none
   else outsOf (i+1) rt as
  | none=>outsOf (i+1) rt as
def tupled:List T→T
 | [t]=>t
 | ts=>.tup ts
def finish (E:Env) (fn:Func) (args:List Arg) (st:St):Option Res:=
 match resTop E st (fn.results.toList.zip fn.resultTypes.toList) with
 | some (ts,rt)=>
  match outsOf 0 rt args with
  | some os=>some ⟨tupled ts,os,clean (tupled ts)⟩
  | none=>none
 | none=>none
def mergeL:List T→List T→Option (List T)
 | [],[]=>some []
 | t::ts,c::cs=>
  match mergeL ts cs with
  | some xs=>
   match t with
   | .v x=>some (.v x::xs)
   | _=>if isOwn c then some (c::xs) else none
  | none=>none
 | _,_=>none
def finishL (E:Env) (fn:Func) (args:List Arg) (st:St):Option Res:=
 match resTop E st (fn.results.toList.zip fn.resultTypes.toList) with
 | some ([.v x],rt)=>
  match args,lk rt 0 with
  | a::_,some r=>if r.ver=0∧r.hver=0∧r.real=false then
    match mergeL a.t.cells r.cells with
    | some row=>some ⟨.v x,[(0,row)],true⟩
    | none=>none
   else none
  | _,_=>none
 | _=>none
def finishX (E:Env) (f:FuncId) (fn:Func) (args:List Arg) (st:St):Option Res:=
 if lends (E.mode f)=true then finishL E fn args st else finish E fn args st
def boxed:Code→Option (Nat×Nat×Value×Code)
 | .seq (.region _ ops false) rest=>
  match ops.toList with
  | [o1,o2]=>
   match o1.op,o2.op,o1.dst,o2.dst with
   | .box _ (.tmp 0),.assign (.const v),some b,some t=>if o1.guard.isNone=true∧o2.guard.isNone=true∧1<b∧b<t then some (b,t,v,rest) else none
   | _,_,_,_=>none
  | _=>none
 | _=>none
def finishB (E:Env) (fn:Func) (b:Nat) (row:List T) (st:St):Option Res:=
 match resTop E st (fn.results.toList.zip fn.resultTypes.toList) with
 | some ([.v x],rt)=>
  match lk rt b with
  | some r=>if r.ver=0∧r.hver=0∧r.real=true then
    match mergeL (viewFrom 0 0 [] 0 row) r.cells with
    | some row'=>some ⟨.v x,[(0,row')],true⟩
    | none=>none
   else none
  | none=>none
 | _=>none
def evBodyB (E:Env) (call:FuncId→List Arg→Option Res) (n:Nat) (f:FuncId) (fn:Func) (args:List Arg):Option Res:=
 match fn.body with
 | none=>none
 | some c=>
  match boxed c with
  | none=>none
  | some p=>
   match args with
   | [⟨.agg cs,some r⟩,⟨.v y,none⟩]=>
    if r.ver=0∧r.hver=0∧r.real=false∧p.2.1<fn.ntmps then
     match mergeL cs r.cells with
     | some row=>
      match evCode E call f (evLoop E call f n) p.2.2.2 ⟨fn.ntmps,[(1,.v y),(p.1,.ptr p.1 0 [] 0),(p.2.1,.v p.2.2.1)],[(p.1,⟨0,0,true,row⟩)],2⟩ with
      | some (.normal,st)=>finishB E fn p.1 row st
      | some (.ret,st)=>finishB E fn p.1 row st
      | _=>none
     | none=>none
    else none
   | _=>none
def boxedM:List Mode→Bool
 | [.L,.B]=>true
 | _=>false
def evBody (E:Env) (call:FuncId→List Arg→Option Res) (n:Nat) (f:FuncId) (fn:Func) (args:List Arg):Option Res:=
 match fn.body with
 | none=>none
 | some c=>
  match evCode E call f (evLoop E call f n) c ⟨max fn.ntmps args.length,initFr 0 args,initRt 0 args,2⟩ with
  | some (.normal,st)=>finishX E f fn args st
  | some (.ret,st)=>finishX E f fn args st
  | _=>none
def evF (E:Env):Nat→FuncId→List Arg→Option Res
 | 0,_,_=>none
 | n+1,f,args=>
  match E.ext f with
  | some g=>g args
  | none=>if E.good f=true then (match E.P.funcs[f]? with
   | none=>none
   | some fn=>if boxedM (E.mode f)=true then evBodyB E (evF E n) n f fn args else evBody E (evF E n) n f fn args) else none
def szOf (E:Env) (e:TypeId):Nat:=match E.ti e with | some i=>i.size | none=>0
def fzFree (fz:Nat×Nat) (n:Nat):Prop:=∀ i,i<n→¬ (fz.1≤i∧i<fz.2)
def fzOk (s:Nat) (fz:Nat×Nat) (n:Nat):Prop:=fzFree fz n∧(s=1∨¬ (fz.1≤n∧n<fz.2))
theorem fzOk_zero {s n:Nat}:fzOk s (0,0) n:=⟨fun i _ h=>by simp only at h;omega,.inr (by simp only;omega)⟩
mutual
def okV (sz:TypeId→Nat) (h:Array Obj) (I:Nat→Prop):T→Value→List Nat→Prop
 | .v x,u,fs=>u=x∧fs=[]
 | .agg cs,u,fs=>∃ us:List Value,u=.agg us.toArray∧okL sz h I cs us fs
 | .tup cs,u,fs=>∃ us:List Value,u=.tuple us.toArray∧okL sz h I cs us fs
 | .sl e es,u,fs=>fs=[]∧∃ a cap,u=.slice a es.length cap∧es.length≤cap∧
   (es=[]∨∃ b o arr el fz,a=some ⟨b,o,none⟩∧I b∧h[b]?=some (.cells arr el fz)∧okEs sz h I (sz e) es (arr.toList.drop o) [])
 | .own e es,u,fs=>(es=[]∧fs=[]∧∃ a,u=.slice a 0 0)∨
   ∃ b o cap arr el fz fs',u=.slice (some ⟨b,o,none⟩) es.length cap∧es.length≤cap∧h[b]?=some (.cells arr el fz)∧fzOk (sz e) fz arr.size∧
    o+cap*sz e≤arr.size∧fs=b::fs'∧okEs sz h I (sz e) es (arr.toList.drop o) fs'
 | .ipt cs,u,fs=>fs=[]∧∃ b o arr el fz,u=.pointer (some ⟨b,o,none⟩)∧I b∧h[b]?=some (.cells arr el fz)∧
   okL sz h I cs ((arr.toList.drop o).take cs.length) []
 | .clo f caps,u,fs=>fs=[]∧∃ us:List Value,u=.func (.func f) #[] us.toArray∧okL sz h I caps us []
 | .dead,_,fs=>fs=[]
 | .hdr n,u,fs=>fs=[]∧∃ a cap,u=.slice a n cap
 | .obx cs,u,fs=>∃ b pre vals post el fz fs',u=.pointer (some ⟨b,(pre:List Value).length,none⟩)∧fs=b::fs'∧h[b]?=some (.cells (pre++vals++post).toArray el fz)∧
   fzFree fz (pre++vals++post).length∧okL sz h I cs vals fs'
 | .ref ..,_,_=>False
 | .ptr ..,_,_=>False
 | .bx ..,_,_=>False
def okL (sz:TypeId→Nat) (h:Array Obj) (I:Nat→Prop):List T→List Value→List Nat→Prop
 | [],us,fs=>us=[]∧fs=[]
 | c::cs,us,fs=>∃ u us' f1 f2,us=u::us'∧fs=f1++f2∧okV sz h I c u f1∧okL sz h I cs us' f2
def okEs (sz:TypeId→Nat) (h:Array Obj) (I:Nat→Prop) (s:Nat):List (List T)→List Value→List Nat→Prop
 | [],_,fs=>fs=[]
 | c::cs,l,fs=>∃ f1 f2,c.length=s∧fs=f1++f2∧okL sz h I c (l.take s) f1∧okEs sz h I s cs (l.drop s) f2
end
theorem okL_length {sz h I}:∀ {cs us fs},okL sz h I cs us fs→us.length=cs.length
 | [],us,fs,hh=>by simp only[okL] at hh;simp[hh.1]
 | c::cs,us,fs,hh=>by
  simp only[okL] at hh
  obtain⟨u,us',f1,f2,rfl,_,_,h2⟩:=hh
  simp[okL_length h2]
def Agree (h h':Array Obj) (I I':Nat→Prop) (fs:List Nat):Prop:=
 (∀ b,I b→I' b∧h'[b]?=h[b]?)∧∀ b,b∈fs→h'[b]?=h[b]?
theorem Agree.left {h h' I I' f1 f2} (a:Agree h h' I I' (f1++f2)):Agree h h' I I' f1:=⟨a.1,fun b hb=>a.2 b (by simp[hb])⟩
theorem Agree.right {h h' I I' f1 f2} (a:Agree h h' I I' (f1++f2)):Agree h h' I I' f2:=⟨a.1,fun b hb=>a.2 b (by simp[hb])⟩
theorem Agree.tail {h h' I I' b f} (a:Agree h h' I I' (b::f)):Agree h h' I I' f:=⟨a.1,fun b hb=>a.2 b (by simp[hb])⟩
theorem Agree.nil {h h' I I' f} (a:Agree h h' I I' f):Agree h h' I I' []:=⟨a.1,fun b hb=>by simp at hb⟩
mutual
theorem okV_agree {sz h h' I I'}:∀ {t u fs},Agree h h' I I' fs→okV sz h I t u fs→okV sz h' I' t u fs
 | .v x,u,fs,_,hh=>by simpa only[okV] using hh
 | .agg cs,u,fs,ha,hh=>by
  simp only[okV] at hh ⊢
  obtain⟨us,h1,h2⟩:=hh
  exact⟨us,h1,okL_agree ha h2⟩
 | .tup cs,u,fs,ha,hh=>by
  simp only[okV] at hh ⊢
  obtain⟨us,h1,h2⟩:=hh
  exact⟨us,h1,okL_agree ha h2⟩
 | .sl e es,u,fs,ha,hh=>by
  simp only[okV] at hh ⊢
  obtain⟨h0,a,cap,h1,hcap,h2⟩:=hh
  refine⟨h0,a,cap,h1,hcap,?_⟩
  rcases h2 with h2 | ⟨b,o,arr,el,fz,h2,h3,h4,h5⟩
  ·exact .inl h2
  ·obtain⟨hi,hb⟩:=ha.1 b h3
   exact .inr ⟨b,o,arr,el,fz,h2,hi,by rw[hb];exact h4,okEs_agree ha.nil h5⟩
 | .own e es,u,fs,ha,hh=>by
  simp only[okV] at hh ⊢
  rcases hh with hh | ⟨b,o,cap,arr,el,fz,fs',h1,h2,h3,h4,h5,rfl,h7⟩
  ·exact .inl hh
  ·exact .inr ⟨b,o,cap,arr,el,fz,fs',h1,h2,by rw[ha.2 b (by simp)];exact h3,h4,h5,rfl,okEs_agree ha.tail h7⟩
 | .ipt cs,u,fs,ha,hh=>by
  simp only[okV] at hh ⊢
  obtain⟨h0,b,o,arr,el,fz,h1,h2,h3,h4⟩:=hh
  obtain⟨hi,hb⟩:=ha.1 b h2
  exact⟨h0,b,o,arr,el,fz,h1,hi,by rw[hb];exact h3,okL_agree ha.nil h4⟩
 | .clo f caps,u,fs,ha,hh=>by
  simp only[okV] at hh ⊢
  obtain⟨h0,us,h1,h2⟩:=hh
  exact⟨h0,us,h1,okL_agree ha.nil h2⟩
 | .dead,u,fs,_,hh=>by simpa only[okV] using hh
 | .hdr n,u,fs,_,hh=>by simpa only[okV] using hh
 | .obx cs,u,fs,ha,hh=>by
  simp only[okV] at hh ⊢
  obtain⟨b,pre,vals,post,el,fz,fs',h1,rfl,h3,h4,h5⟩:=hh
  exact⟨b,pre,vals,post,el,fz,fs',h1,rfl,by rw[ha.2 b (by simp)];exact h3,h4,okL_agree ha.tail h5⟩
 | .ref ..,u,fs,_,hh=>by simp only[okV] at hh
 | .ptr ..,u,fs,_,hh=>by simp only[okV] at hh
 | .bx ..,u,fs,_,hh=>by simp only[okV] at hh
theorem okL_agree {sz h h' I I'}:∀ {cs us fs},Agree h h' I I' fs→okL sz h I cs us fs→okL sz h' I' cs us fs
 | [],us,fs,_,hh=>by simpa only[okL] using hh
 | c::cs,us,fs,ha,hh=>by
  simp only[okL] at hh ⊢
  obtain⟨u,us',f1,f2,h1,rfl,h3,h4⟩:=hh
  exact⟨u,us',f1,f2,h1,rfl,okV_agree ha.left h3,okL_agree ha.right h4⟩
theorem okEs_agree {sz h h' I I'} {s:Nat}:∀ {es l fs},Agree h h' I I' fs→okEs sz h I s es l fs→okEs sz h' I' s es l fs
 | [],l,fs,_,hh=>by simpa only[okEs] using hh
 | c::cs,l,fs,ha,hh=>by
  simp only[okEs] at hh ⊢
  obtain⟨f1,f2,h1,rfl,h3,h4⟩:=hh
  exact⟨f1,f2,h1,rfl,okL_agree ha.left h3,okEs_agree ha.right h4⟩
end
mutual
theorem okV_seal {sz h I I'} (hI:∀ b,I b→I' b):∀ {t u fs},(∀ b,b∈fs→I' b)→okV sz h I t u fs→okV sz h I' (seal_ t) u []
 | .v x,u,fs,_,hh=>by simp only[okV,seal_] at hh ⊢;exact⟨hh.1,trivial⟩
 | .agg cs,u,fs,ha,hh=>by
  simp only[okV,seal_] at hh ⊢
  obtain⟨us,h1,h2⟩:=hh
  exact⟨us,h1,okL_seal hI ha h2⟩
 | .tup cs,u,fs,ha,hh=>by
  simp only[okV,seal_] at hh ⊢
  obtain⟨us,h1,h2⟩:=hh
  exact⟨us,h1,okL_seal hI ha h2⟩
 | .sl e es,u,fs,ha,hh=>by
  have:=okV_agree (h':=h) (I':=I') (fs:=[]) ⟨fun b hb=>⟨hI b hb,rfl⟩,fun b hb=>by simp at hb⟩ (t:=.sl e es) (u:=u) (sz:=sz) (h:=h) (I:=I)
  have h0:fs=[]:=by simp only[okV] at hh;exact hh.1
  subst h0
  simpa only[seal_] using this hh
 | .own e es,u,fs,ha,hh=>by
  simp only[okV,seal_] at hh ⊢
  refine⟨trivial,?_⟩
  rcases hh with⟨rfl,_,a,h1⟩ | ⟨b,o,cap,arr,el,fz,fs',h1,h2,h3,h4,h5,rfl,h7⟩
  ·exact⟨a,0,by simpa[sealEs] using h1,by simp[sealEs],.inl (by simp[sealEs])⟩
  ·refine⟨some ⟨b,o,none⟩,cap,?_,by rw[sealEs_length];exact h2,.inr ⟨b,o,arr,el,fz,rfl,ha b (by simp),h3,okEs_seal hI (fun c hc=>ha c (by simp[hc])) h7⟩⟩
   rw[h1,sealEs_length]
 | .ipt cs,u,fs,ha,hh=>by
  have:=okV_agree (h':=h) (I':=I') (fs:=[]) ⟨fun b hb=>⟨hI b hb,rfl⟩,fun b hb=>by simp at hb⟩ (t:=.ipt cs) (u:=u) (sz:=sz) (h:=h) (I:=I)
  have h0:fs=[]:=by simp only[okV] at hh;exact hh.1
  subst h0
  simpa only[seal_] using this hh
 | .clo f caps,u,fs,ha,hh=>by
  have:=okV_agree (h':=h) (I':=I') (fs:=[]) ⟨fun b hb=>⟨hI b hb,rfl⟩,fun b hb=>by simp at hb⟩ (t:=.clo f caps) (u:=u) (sz:=sz) (h:=h) (I:=I)
  have h0:fs=[]:=by simp only[okV] at hh;exact hh.1
  subst h0
  simpa only[seal_] using this hh
 | .dead,u,fs,_,hh=>by simp only[okV,seal_]
 | .hdr n,u,fs,_,hh=>by simp only[okV,seal_] at hh ⊢;exact⟨trivial,hh.2⟩
 | .obx cs,u,fs,ha,hh=>by
  simp only[okV,seal_] at hh ⊢
  obtain⟨b,pre,vals,post,el,fz,fs',h1,rfl,h3,h4,h5⟩:=hh
  refine⟨trivial,b,pre.length,_,el,fz,h1,ha b (by simp),h3,?_⟩
  have hl:=okL_length h5
  have e:(((pre++vals++post).toArray.toList.drop pre.length).take (sealL cs).length)=vals:=by
   rw[List.append_assoc]
   simp[sealL_length,←hl]
  rw[e]
  exact okL_seal hI (fun c hc=>ha c (by simp[hc])) h5
 | .ref ..,u,fs,_,hh=>by simp only[okV] at hh
 | .ptr ..,u,fs,_,hh=>by simp only[okV] at hh
 | .bx ..,u,fs,_,hh=>by simp only[okV] at hh
theorem okL_seal {sz h I I'} (hI:∀ b,I b→I' b):∀ {cs us fs},(∀ b,b∈fs→I' b)→okL sz h I cs us fs→okL sz h I' (sealL cs) us []
 | [],us,fs,_,hh=>by simp only[okL,sealL] at hh ⊢;exact⟨hh.1,trivial⟩
 | c::cs,us,fs,ha,hh=>by
  simp only[okL,sealL] at hh ⊢
  obtain⟨u,us',f1,f2,h1,rfl,h3,h4⟩:=hh
  exact⟨u,us',[],[],h1,rfl,okV_seal hI (fun b hb=>ha b (by simp[hb])) h3,okL_seal hI (fun b hb=>ha b (by simp[hb])) h4⟩
theorem okEs_seal {sz h I I'} {s:Nat} (hI:∀ b,I b→I' b):∀ {es l fs},(∀ b,b∈fs→I' b)→okEs sz h I s es l fs→okEs sz h I' s (sealEs es) l []
 | [],l,fs,_,hh=>by simp only[okEs,sealEs]
 | c::cs,l,fs,ha,hh=>by
  simp only[okEs,sealEs] at hh ⊢
  obtain⟨f1,f2,h1,rfl,h3,h4⟩:=hh
  exact⟨[],[],by rw[sealL_length];exact h1,rfl,okL_seal hI (fun b hb=>ha b (by simp[hb])) h3,okEs_seal hI (fun b hb=>ha b (by simp[hb])) h4⟩
theorem sealL_length:∀ (cs:List T),(sealL cs).length=cs.length
 | []=>rfl
 | c::cs=>by simp only[sealL,List.length_cons,sealL_length cs]
theorem sealEs_length:∀ (cs:List (List T)),(sealEs cs).length=cs.length
 | []=>rfl
 | c::cs=>by simp only[sealEs,List.length_cons,sealEs_length cs]
end
def Both (fs f g:List Nat):Prop:=∀ x,fs.count x=f.count x+g.count x
theorem Both.mem {fs f g:List Nat} (h:Both fs f g) (x:Nat):x∈fs↔x∈f∨x∈g:=by
 have:=h x
 rw[←List.count_pos_iff,←List.count_pos_iff,←List.count_pos_iff]
 omega
def Uniq (fs:List Nat):Prop:=∀ x,fs.count x≤1
theorem okL_focus {sz h I}:∀ {cs us fs} {c:Nat} {t:T},okL sz h I cs us fs→cs[c]?=some t→
  ∃ u f r,us[c]?=some u∧Both fs f r∧okV sz h I t u f∧
   ∀ h' I' t' u' f',Agree h h' I I' r→okV sz h' I' t' u' f'→∃ fs',okL sz h' I' (cs.set c t') (us.set c u') fs'∧Both fs' f' r
 | [],us,fs,c,t,_,h2=>by simp at h2
 | c0::cs,us,fs,0,t,h1,h2=>by
  simp only[okL] at h1
  obtain⟨u,us',f1,f2,rfl,rfl,h3,h4⟩:=h1
  simp only[List.getElem?_cons_zero,Option.some.injEq] at h2
  subst h2
  refine⟨u,f1,f2,rfl,fun x=>by simp,h3,fun h' I' t' u' f' ha hv=>⟨f'++f2,?_,fun x=>by simp⟩⟩
  simp only[List.set_cons_zero,okL]
  exact⟨u',us',f',f2,rfl,rfl,hv,okL_agree ha h4⟩
 | c0::cs,us,fs,c+1,t,h1,h2=>by
  simp only[okL] at h1
  obtain⟨u,us',f1,f2,rfl,rfl,h3,h4⟩:=h1
  simp only[List.getElem?_cons_succ] at h2
  obtain⟨v,f,r,g1,g2,g3,g4⟩:=okL_focus h4 h2
  refine⟨v,f,f1++r,by simpa using g1,fun x=>?_,g3,fun h' I' t' u' f' ha hv=>?_⟩
  ·have:=g2 x
   simp only[List.count_append];omega
  ·obtain⟨fs',k1,k2⟩:=g4 h' I' t' u' f' ha.right hv
   refine⟨f1++fs',?_,fun x=>?_⟩
   ·simp only[List.set_cons_succ,okL]
    exact⟨u,us'.set c u',f1,fs',rfl,rfl,okV_agree ha.left h3,k1⟩
   ·have:=k2 x
    simp only[List.count_append];omega
theorem okEs_focus {sz h I} {s:Nat}:∀ {es l fs} {i:Nat} {c:List T},okEs sz h I s es l fs→es[i]?=some c→
  ∃ f r,c.length=s∧Both fs f r∧okL sz h I c ((l.drop (i*s)).take s) f∧
   ∀ h' I' c' l' f',Agree h h' I I' r→c'.length=s→okL sz h' I' c' ((l'.drop (i*s)).take s) f'→
    l'.take (i*s)=l.take (i*s)→l'.drop (i*s+s)=l.drop (i*s+s)→∃ fs',okEs sz h' I' s (es.set i c') l' fs'∧Both fs' f' r
 | [],l,fs,i,c,_,h2=>by simp at h2
 | c0::es,l,fs,0,c,h1,h2=>by
  simp only[okEs] at h1
  obtain⟨f1,f2,h0,rfl,h3,h4⟩:=h1
  simp only[List.getElem?_cons_zero,Option.some.injEq] at h2
  subst h2
  refine⟨f1,f2,h0,fun x=>by simp,by simpa using h3,fun h' I' c' l' f' ha hl hv _ hd=>⟨f'++f2,?_,fun x=>by simp⟩⟩
  simp only[List.set_cons_zero,okEs]
  refine⟨f',f2,hl,rfl,by simpa using hv,?_⟩
  have:l'.drop s=l.drop s:=by simpa using hd
  rw[this]
  exact okEs_agree ha h4
 | c0::es,l,fs,i+1,c,h1,h2=>by
  simp only[okEs] at h1
  obtain⟨f1,f2,h0,rfl,h3,h4⟩:=h1
  simp only[List.getElem?_cons_succ] at h2
  obtain⟨f,r,g0,g1,g2,g3⟩:=okEs_focus h4 h2
  have e1:(i+1)*s=s+i*s:=by rw[Nat.add_mul,Nat.one_mul,Nat.add_comm]
  have dd:∀ m:List Value,(m.drop s).drop (i*s)=m.drop ((i+1)*s):=fun m=>by rw[List.drop_drop,e1]
  refine⟨f,f1++r,g0,fun x=>?_,by rw[←dd];exact g2,fun h' I' c' l' f' ha hl hv ht hd=>?_⟩
  ·have:=g1 x
   simp only[List.count_append];omega
  ·have ht1:l'.take s=l.take s:=by
    have:=congrArg (List.take s) ht
    rw[List.take_take,List.take_take,Nat.min_eq_left (by rw[e1];omega)] at this
    exact this
   have ht2:(l'.drop s).take (i*s)=(l.drop s).take (i*s):=by
    have:=congrArg (List.drop s) ht
    rw[List.drop_take,List.drop_take,e1,Nat.add_sub_cancel_left] at this
    exact this
   have hd2:(l'.drop s).drop (i*s+s)=(l.drop s).drop (i*s+s):=by
    rw[List.drop_drop,List.drop_drop]
    have e2:s+(i*s+s)=(i+1)*s+s:=by omega
    rw[e2];exact hd
   obtain⟨fs',k1,k2⟩:=g3 h' I' c' (l'.drop s) f' ha.right hl (by rw[dd];exact hv) ht2 hd2
   refine⟨f1++fs',?_,fun x=>?_⟩
   ·simp only[List.set_cons_succ,okEs]
    exact⟨f1,fs',h0,rfl,by rw[ht1];exact okL_agree ha.left h3,k1⟩
   ·have:=k2 x
    simp only[List.count_append];omega
def loc (sz:TypeId→Nat) (h:Array Obj):List T→List Value→Option (Nat×Nat)→List (Nat×Nat)→Option (List T×List Value×Option (Nat×Nat))
 | cs,vs,ad,[]=>some (cs,vs,ad)
 | cs,vs,_,(c,i)::rest=>
  match cs[c]?,vs[c]? with
  | some (.own e es),some (.slice (some a) _ _)=>
   match es[i]?,h[a.block]? with
   | some cs',some (.cells arr _ _)=>loc sz h cs' ((arr.toList.drop (a.off+i*sz e)).take (sz e)) (some (a.block,a.off+i*sz e)) rest
   | _,_=>none
  | _,_=>none
theorem set_self {α:Type} {vs:List α} {c:Nat} {u:α} (h:vs[c]?=some u):vs.set c u=vs:=by
 apply List.ext_getElem?
 intro k
 rw[List.getElem?_set]
 split
 ·rename_i hk;subst hk
  split
  ·exact h.symm
  ·rename_i hn
   rw[List.getElem?_eq_none (by omega)] at h
   simp at h
 ·rfl
theorem own_some {sz h I e es u fs} {i:Nat} {c:List T} (hv:okV sz h I (.own e es) u fs) (hi:es[i]?=some c):
  ∃ b o cap arr el fz fs',u=.slice (some ⟨b,o,none⟩) es.length cap∧es.length≤cap∧h[b]?=some (.cells arr el fz)∧fzOk (sz e) fz arr.size∧
    o+cap*sz e≤arr.size∧fs=b::fs'∧okEs sz h I (sz e) es (arr.toList.drop o) fs':=by
 simp only[okV] at hv
 rcases hv with⟨rfl,_⟩ | hv
 ·simp at hi
 ·exact hv
theorem path_ok {sz h I}:∀ {path:List (Nat×Nat)} {cs vs fs ad} {c0:List T},path≠[]→okL sz h I cs vs fs→Uniq fs→descend cs path=some c0→
  ∃ b o arr el fz f r,loc sz h cs vs ad path=some (c0,(arr.toList.drop o).take c0.length,some (b,o))∧h[b]?=some (.cells arr el fz)∧fzFree fz arr.size∧
   o+c0.length≤arr.size∧b∈r∧Both fs f r∧okL sz h I c0 ((arr.toList.drop o).take c0.length) f∧
   ∀ h' I' c1 vs1 f1 arr' (g:List T→Option (List T)),g c0=some c1→(∀ x,I x→I' x∧h'[x]?=h[x]?)→(∀ x,x∈r→x≠b→h'[x]?=h[x]?)→
    h'[b]?=some (.cells arr' el fz)→arr'.size=arr.size→arr'.toList=arr.toList.take o++vs1++arr.toList.drop (o+c0.length)→
    c1.length=c0.length→okL sz h' I' c1 vs1 f1→∃ cs' fs',graft g cs path=some cs'∧okL sz h' I' cs' vs fs'∧Both fs' f1 r
 | [],cs,vs,fs,ad,c0,hp,_,_,_=>by simp at hp
 | (c,i)::rest,cs,vs,fs,ad,c0,_,hk,hu,hd=>by
  simp only[descend] at hd
  cases hc:cs[c]? with
  | none=>rw[hc] at hd;simp at hd
  | some t=>
   rw[hc] at hd
   cases t with
   | own e es=>
    simp only at hd
    cases hi:es[i]? with
    | none=>rw[hi] at hd;simp at hd
    | some cs'=>
     rw[hi] at hd
     simp only at hd
     obtain⟨u,f,r,k1,k2,k3,k4⟩:=okL_focus hk hc
     obtain⟨b,o,cap,arr,el,fz,fs',m1,m2,m3,m4,m5,rfl,m7⟩:=own_some k3 hi
     obtain⟨fe,re,n1,n2,n3,n4⟩:=okEs_focus m7 hi
     have hil:i<es.length:=by
      rcases Nat.lt_or_ge i es.length with h | h
      ·exact h
      ·simp[List.getElem?_eq_none h] at hi
     have hbnd:o+i*sz e+sz e≤arr.size:=by
      have:(i+1)*sz e≤cap*sz e:=Nat.mul_le_mul_right _ (by omega)
      rw[Nat.add_mul,Nat.one_mul] at this
      omega
     have dd:(arr.toList.drop o).drop (i*sz e)=arr.toList.drop (o+i*sz e):=by rw[List.drop_drop]
     rw[dd] at n3
     cases rest with
     | nil=>
      simp only[descend,Option.some.injEq] at hd
      subst hd
      refine⟨b,o+i*sz e,arr,el,fz,fe,b::(re++r),?_,m3,m4.1,by omega,by simp,fun x=>?_,by rw[n1];exact n3,?_⟩
      ·simp only[loc,hc,k1,m1,hi,m3,n1]
      ·have e1:=k2 x
       have e2:=n2 x
       simp only[List.count_cons,List.count_append] at *
       omega
      ·intro h' I' c1 vs1 f1 arr' g hg hI hr hb hs harr hlen hv
       have hvl:vs1.length=c1.length:=okL_length hv
       have ht0:(arr.toList.take (o+i*sz e)).length=o+i*sz e:=by simp;omega
       have hdr:∀ k,k≤o+i*sz e→arr'.toList.drop k=(arr.toList.take (o+i*sz e)).drop k++(vs1++arr.toList.drop (o+i*sz e+cs'.length)):=by
        intro k hk
        rw[harr,List.append_assoc,List.drop_append_of_le_length (by omega)]
       have q1:((arr'.toList.drop o).drop (i*sz e)).take (sz e)=vs1:=by
        rw[List.drop_drop,hdr _ (Nat.le_refl _),List.drop_of_length_le (by omega),List.nil_append,List.take_append_of_le_length (by omega),List.take_of_length_le (by omega)]
       have q2:(arr'.toList.drop o).take (i*sz e)=(arr.toList.drop o).take (i*sz e):=by
        rw[hdr _ (by omega),List.take_append_of_le_length (by simp;omega),List.drop_take]
        rw[List.take_take];congr 1;omega
       have q3:(arr'.toList.drop o).drop (i*sz e+sz e)=(arr.toList.drop o).drop (i*sz e+sz e):=by
        rw[List.drop_drop,List.drop_drop,harr,List.drop_append,List.drop_of_length_le (by simp;omega),List.nil_append]
        rw[List.drop_drop];congr 1;simp;omega
       obtain⟨fs2,p1,p2⟩:=n4 h' I' c1 (arr'.toList.drop o) f1 ⟨hI,fun x hx=>hr x (by simp[hx]) (by
         rintro rfl
         have e1:=k2 x
         have e2:=hu x
         have e3:=n2 x
         have e4:0<re.count x:=List.count_pos_iff.2 hx
         simp only[List.count_cons_self] at e1
         omega)⟩ (by omega) (by rw[q1];exact hv) q2 q3
       have hv2:okV sz h' I' (.own e (es.set i c1)) u (b::fs2):=by
        simp only[okV]
        exact .inr ⟨b,o,cap,arr',el,fz,fs2,by rw[m1];simp,by simpa using m2,hb,by rw[hs];exact m4,by rw[hs];exact m5,rfl,p1⟩
       obtain⟨fs3,p3,p4⟩:=k4 h' I' _ u (b::fs2) ⟨hI,fun x hx=>hr x (by simp[hx]) (by
         rintro rfl
         have e1:=k2 x
         have e2:=hu x
         have e4:0<r.count x:=List.count_pos_iff.2 hx
         simp only[List.count_cons_self] at e1
         omega)⟩ hv2
       refine⟨cs.set c (.own e (es.set i c1)),fs3,by simp only[graft,hc,hi,hg],?_,fun x=>?_⟩
       ·rw[set_self k1] at p3;exact p3
       ·have e1:=p4 x
        have e2:=p2 x
        simp only[List.count_cons,List.count_append] at *
        omega
     | cons q rest'=>
      have hue:Uniq fe:=fun x=>by
       have e1:=k2 x
       have e2:=hu x
       have e3:=n2 x
       simp only[List.count_cons] at e1
       omega
      obtain⟨b2,o2,arr2,el2,fz2,f2,r2,a1,a2,a3,a4,a5,a6,a7,a8⟩:=path_ok (path:=q::rest') (ad:=some (b,o+i*sz e)) (by simp) n3 hue hd
      refine⟨b2,o2,arr2,el2,fz2,f2,r2++(b::(re++r)),?_,a2,a3,a4,by simp[a5],fun x=>?_,a7,?_⟩
      ·simp only[loc,hc,k1,m1,hi,m3]
       exact a1
      ·have e1:=k2 x
       have e2:=n2 x
       have e3:=a6 x
       simp only[List.count_cons,List.count_append] at *
       omega
      ·intro h' I' c1 vs1 f1 arr' g hg hI hr hb hs harr hlen hv
       have hb2:b2∈fe:=(a6.mem b2).2 (.inr a5)
       have hbb:b≠b2:=by
        rintro rfl
        have e1:=k2 b
        have e2:=hu b
        have e3:=n2 b
        have e4:0<fe.count b:=List.count_pos_iff.2 hb2
        simp only[List.count_cons_self] at e1
        omega
       obtain⟨cs2,fs2,p1,p2,p3⟩:=a8 h' I' c1 vs1 f1 arr' g hg hI (fun x hx hxb=>hr x (by simp[hx]) hxb) hb hs harr hlen hv
       have hbk:h'[b]?=h[b]?:=hr b (by simp) hbb
       have hl2:cs2.length=sz e:=by
        have:=okL_length p2
        rw[List.length_take,List.length_drop,Array.length_toList] at this
        omega
       obtain⟨fs3,p4,p5⟩:=n4 h' I' cs2 (arr.toList.drop o) fs2 ⟨hI,fun x hx=>hr x (by simp[hx]) (by
         rintro rfl
         have e1:=k2 x
         have e2:=hu x
         have e3:=n2 x
         have e4:0<re.count x:=List.count_pos_iff.2 hx
         have e5:0<fe.count x:=List.count_pos_iff.2 hb2
         simp only[List.count_cons] at e1
         omega)⟩ hl2 (by rw[dd];exact p2) rfl rfl
       have hv2:okV sz h' I' (.own e (es.set i cs2)) u (b::fs3):=by
        simp only[okV]
        exact .inr ⟨b,o,cap,arr,el,fz,fs3,by rw[m1];simp,by simpa using m2,by rw[hbk];exact m3,m4,m5,rfl,p4⟩
       obtain⟨fs4,p6,p7⟩:=k4 h' I' _ u (b::fs3) ⟨hI,fun x hx=>hr x (by simp[hx]) (by
         rintro rfl
         have e1:=k2 x
         have e2:=hu x
         have e3:=n2 x
         have e4:0<r.count x:=List.count_pos_iff.2 hx
         have e5:0<fe.count x:=List.count_pos_iff.2 hb2
         simp only[List.count_cons] at e1
         omega)⟩ hv2
       refine⟨cs.set c (.own e (es.set i cs2)),fs4,by rw[graft];simp only[hc,hi];rw[p1],?_,fun x=>?_⟩
       ·rw[set_self k1] at p6;exact p6
       ·have e1:=p7 x
        have e2:=p5 x
        have e3:=p3 x
        simp only[List.count_cons,List.count_append] at *
        omega
   | _=>simp at hd
mutual
def skV (sz:TypeId→Nat) (h' h:Array Obj):T→T→Value→Prop
 | .own e es',t,u=>∃ es,t=.own e es∧es.length=es'.length∧
   (es'=[]∨∃ b o n cap arr' el' fz' arr el fz,u=.slice (some ⟨b,o,none⟩) n cap∧h'[b]?=some (.cells arr' el' fz')∧h[b]?=some (.cells arr el fz)∧
    skEs sz h' h (sz e) es' es (arr'.toList.drop o) (arr.toList.drop o))
 | _,_,_=>True
def skL (sz:TypeId→Nat) (h' h:Array Obj):List T→List T→List Value→List Value→Prop
 | [],_,_,_=>True
 | c'::cs',cs,vs',vs=>∃ c ct u' ut' u ut,cs=c::ct∧vs'=u'::ut'∧vs=u::ut∧(isOwn c'=true→u'=u)∧skV sz h' h c' c u∧skL sz h' h cs' ct ut' ut
def skEs (sz:TypeId→Nat) (h' h:Array Obj) (s:Nat):List (List T)→List (List T)→List Value→List Value→Prop
 | [],_,_,_=>True
 | c'::es',es,l',l=>∃ c et,es=c::et∧skL sz h' h c' c (l'.take s) (l.take s)∧skEs sz h' h s es' et (l'.drop s) (l.drop s)
end
theorem skL_get {sz h' h}:∀ {cs' cs vs' vs} {c:Nat} {t':T},skL sz h' h cs' cs vs' vs→cs'[c]?=some t'→
  ∃ t u' u,cs[c]?=some t∧vs'[c]?=some u'∧vs[c]?=some u∧(isOwn t'=true→u'=u)∧skV sz h' h t' t u
 | [],cs,vs',vs,c,t',_,h2=>by simp at h2
 | c0::cs',cs,vs',vs,0,t',h1,h2=>by
  simp only[skL] at h1
  obtain⟨d,ct,u',ut',u,ut,rfl,rfl,rfl,h4,h5,h6⟩:=h1
  simp only[List.getElem?_cons_zero,Option.some.injEq] at h2
  subst h2
  exact⟨d,u',u,rfl,rfl,rfl,h4,h5⟩
 | c0::cs',cs,vs',vs,c+1,t',h1,h2=>by
  simp only[skL] at h1
  obtain⟨d,ct,u',ut',u,ut,rfl,rfl,rfl,h4,h5,h6⟩:=h1
  simp only[List.getElem?_cons_succ] at h2
  simpa using skL_get h6 h2
theorem skEs_get {sz h' h} {s:Nat}:∀ {es' es l' l} {i:Nat} {c':List T},skEs sz h' h s es' es l' l→es'[i]?=some c'→
  ∃ c,es[i]?=some c∧skL sz h' h c' c ((l'.drop (i*s)).take s) ((l.drop (i*s)).take s)
 | [],es,l',l,i,c',_,h2=>by simp at h2
 | c0::es',es,l',l,0,c',h1,h2=>by
  simp only[skEs] at h1
  obtain⟨d,et,rfl,h4,h5⟩:=h1
  simp only[List.getElem?_cons_zero,Option.some.injEq] at h2
  subst h2
  exact⟨d,rfl,by simpa using h4⟩
 | c0::es',es,l',l,i+1,c',h1,h2=>by
  simp only[skEs] at h1
  obtain⟨d,et,rfl,h4,h5⟩:=h1
  simp only[List.getElem?_cons_succ] at h2
  obtain⟨c,k1,k2⟩:=skEs_get h5 h2
  have e1:(i+1)*s=s+i*s:=by rw[Nat.add_mul,Nat.one_mul,Nat.add_comm]
  refine⟨c,by simpa using k1,?_⟩
  rw[List.drop_drop,List.drop_drop,←e1] at k2
  exact k2
theorem sk_loc {sz h' h}:∀ {p:List (Nat×Nat)} {cs' cs vs' vs ad k' v' a'},skL sz h' h cs' cs vs' vs→loc sz h' cs' vs' ad p=some (k',v',a')→
  ∃ k v,loc sz h cs vs ad p=some (k,v,a')∧skL sz h' h k' k v' v
 | [],cs',cs,vs',vs,ad,k',v',a',h1,h2=>by
  simp only[loc,Option.some.injEq,Prod.mk.injEq] at h2 ⊢
  obtain⟨rfl,rfl,rfl⟩:=h2
  exact⟨cs,vs,⟨rfl,rfl,rfl⟩,h1⟩
 | (c,i)::rest,cs',cs,vs',vs,ad,k',v',a',h1,h2=>by
  simp only[loc] at h2
  cases hc:cs'[c]? with
  | none=>rw[hc] at h2;simp at h2
  | some t'=>
   obtain⟨t,u',u,g1,g2,g3,g4,g5⟩:=skL_get h1 hc
   rw[hc,g2] at h2
   cases t' with
   | own e es'=>
    have hu:u'=u:=g4 rfl
    subst hu
    simp only[skV] at g5
    obtain⟨es,rfl,hl,g6⟩:=g5
    cases hi:es'[i]? with
    | none=>
     exfalso
     cases u' with
     | slice a _ _=>cases a<;>simp[hi] at h2
     | _=>simp at h2
    | some c'=>
     rcases g6 with rfl | ⟨b,o,n,cap,arr',el',fz',arr,el,fz,rfl,m1,m2,m3⟩
     ·simp at hi
     ·obtain⟨c0,q1,q2⟩:=skEs_get m3 hi
      simp only[hi,m1] at h2
      rw[List.drop_drop,List.drop_drop] at q2
      obtain⟨k,v,r1,r2⟩:=sk_loc (ad:=some (b,o+i*sz e)) q2 h2
      exact⟨k,v,by simp only[loc,g1,g3,q1,m2];exact r1,r2⟩
   | _=>simp at h2
mutual
theorem skV_refl {sz h h' I}:∀ {t u fs},(∀ b,b∈fs→h'[b]?=h[b]?)→okV sz h I t u fs→skV sz h' h t t u
 | .own e es,u,fs,ha,hk=>by
  simp only[okV] at hk
  simp only[skV]
  rcases hk with⟨rfl,_,a,h1⟩ | ⟨b,o,cap,arr,el,fz,fs',h1,h2,h3,h4,h5,rfl,h7⟩
  ·exact⟨[],rfl,rfl,.inl rfl⟩
  ·refine⟨es,rfl,rfl,.inr ⟨b,o,es.length,cap,arr,el,fz,arr,el,fz,h1,by rw[ha b (by simp)];exact h3,h3,skEs_refl (fun x hx=>ha x (by simp[hx])) h7⟩⟩
 | .v _,_,_,_,_=>by simp only[skV]
 | .agg _,_,_,_,_=>by simp only[skV]
 | .tup _,_,_,_,_=>by simp only[skV]
 | .sl _ _,_,_,_,_=>by simp only[skV]
 | .ipt _,_,_,_,_=>by simp only[skV]
 | .clo _ _,_,_,_,_=>by simp only[skV]
 | .dead,_,_,_,_=>by simp only[skV]
 | .hdr _,_,_,_,_=>by simp only[skV]
 | .obx _,_,_,_,_=>by simp only[skV]
 | .ref ..,_,_,_,_=>by simp only[skV]
 | .ptr ..,_,_,_,_=>by simp only[skV]
 | .bx ..,_,_,_,_=>by simp only[skV]
theorem skL_refl {sz h h' I}:∀ {cs us fs},(∀ b,b∈fs→h'[b]?=h[b]?)→okL sz h I cs us fs→skL sz h' h cs cs us us
 | [],us,fs,_,_=>by simp only[skL]
 | c::cs,us,fs,ha,hk=>by
  simp only[okL] at hk
  obtain⟨u,us',f1,f2,rfl,rfl,h3,h4⟩:=hk
  simp only[skL]
  exact⟨c,cs,u,us',u,us',rfl,rfl,rfl,fun _=>rfl,skV_refl (fun b hb=>ha b (by simp[hb])) h3,skL_refl (fun b hb=>ha b (by simp[hb])) h4⟩
theorem skEs_refl {sz h h' I} {s:Nat}:∀ {es l fs},(∀ b,b∈fs→h'[b]?=h[b]?)→okEs sz h I s es l fs→skEs sz h' h s es es l l
 | [],l,fs,_,_=>by simp only[skEs]
 | c::cs,l,fs,ha,hk=>by
  simp only[okEs] at hk
  obtain⟨f1,f2,h1,rfl,h3,h4⟩:=hk
  simp only[skEs]
  exact⟨c,cs,rfl,skL_refl (fun b hb=>ha b (by simp[hb])) h3,skEs_refl (fun b hb=>ha b (by simp[hb])) h4⟩
end
theorem skL_set {sz h h' I}:∀ {cs us fs} {c:Nat} {t t' u u'},okL sz h I cs us fs→cs[c]?=some t→us[c]?=some u→
  (∀ f r,Both fs f r→okV sz h I t u f→(∀ b,b∈r→h'[b]?=h[b]?)∧(isOwn t'=true→u'=u)∧skV sz h' h t' t u)→skL sz h' h (cs.set c t') cs (us.set c u') us
 | [],us,fs,c,t,t',u,u',_,h2,_,_=>by simp at h2
 | c0::cs,us,fs,0,t,t',u,u',h1,h2,h3,h4=>by
  simp only[okL] at h1
  obtain⟨v,us',f1,f2,rfl,rfl,g3,g4⟩:=h1
  simp only[List.getElem?_cons_zero,Option.some.injEq] at h2 h3
  subst h2;subst h3
  obtain⟨k1,k2,k3⟩:=h4 f1 f2 (fun x=>by simp) g3
  simp only[List.set_cons_zero,skL]
  exact⟨c0,cs,u',us',v,us',rfl,rfl,rfl,k2,k3,skL_refl k1 g4⟩
 | c0::cs,us,fs,c+1,t,t',u,u',h1,h2,h3,h4=>by
  simp only[okL] at h1
  obtain⟨v,us',f1,f2,rfl,rfl,g3,g4⟩:=h1
  simp only[List.getElem?_cons_succ] at h2 h3
  have hk:=okL_focus g4 h2
  obtain⟨u2,f,r,q1,q2,q3,_⟩:=hk
  have:u2=u:=by rw[q1] at h3;simpa using h3
  subst this
  have hb:∀ b,b∈f1→h'[b]?=h[b]?:=by
   have:=(h4 f (f1++r) (fun x=>by have:=q2 x;simp only[List.count_append];omega) q3).1
   exact fun b hb=>this b (by simp[hb])
  simp only[List.set_cons_succ,skL]
  refine⟨c0,cs,v,us'.set c u',v,us',rfl,rfl,rfl,fun _=>rfl,skV_refl hb g3,skL_set g4 h2 h3 fun f' r' hb' hv=>?_⟩
  obtain⟨k1,k2,k3⟩:=h4 f' (f1++r') (fun x=>by have:=hb' x;simp only[List.count_append];omega) hv
  exact⟨fun b hb=>k1 b (by simp[hb]),k2,k3⟩
theorem skEs_set {sz h h' I} {s:Nat}:∀ {es l l' fs} {i:Nat} {c c':List T},okEs sz h I s es l fs→es[i]?=some c→
  l'.take (i*s)=l.take (i*s)→l'.drop (i*s+s)=l.drop (i*s+s)→
  (∀ f r,Both fs f r→okL sz h I c ((l.drop (i*s)).take s) f→(∀ b,b∈r→h'[b]?=h[b]?)∧skL sz h' h c' c ((l'.drop (i*s)).take s) ((l.drop (i*s)).take s))→
  skEs sz h' h s (es.set i c') es l' l
 | [],l,l',fs,i,c,c',_,h2,_,_,_=>by simp at h2
 | c0::es,l,l',fs,0,c,c',h1,h2,h3,h4,h5=>by
  simp only[okEs] at h1
  obtain⟨f1,f2,h0,rfl,g3,g4⟩:=h1
  simp only[List.getElem?_cons_zero,Option.some.injEq] at h2
  subst h2
  obtain⟨k1,k2⟩:=h5 f1 f2 (fun x=>by simp) (by simpa using g3)
  simp only[List.set_cons_zero,skEs]
  have e:l'.drop s=l.drop s:=by simpa using h4
  exact⟨c0,es,rfl,by simpa using k2,by rw[e];exact skEs_refl k1 g4⟩
 | c0::es,l,l',fs,i+1,c,c',h1,h2,h3,h4,h5=>by
  simp only[okEs] at h1
  obtain⟨f1,f2,h0,rfl,g3,g4⟩:=h1
  simp only[List.getElem?_cons_succ] at h2
  obtain⟨f,r,q0,q1,q2,_⟩:=okEs_focus g4 h2
  have e1:(i+1)*s=s+i*s:=by rw[Nat.add_mul,Nat.one_mul,Nat.add_comm]
  have dd:∀ m:List Value,(m.drop s).drop (i*s)=m.drop ((i+1)*s):=fun m=>by rw[List.drop_drop,e1]
  have ht1:l'.take s=l.take s:=by
   have:=congrArg (List.take s) h3
   rw[List.take_take,List.take_take,Nat.min_eq_left (by rw[e1];omega)] at this
   exact this
  have ht2:(l'.drop s).take (i*s)=(l.drop s).take (i*s):=by
   have:=congrArg (List.drop s) h3
   rw[List.drop_take,List.drop_take,e1,Nat.add_sub_cancel_left] at this
   exact this
  have hd2:(l'.drop s).drop (i*s+s)=(l.drop s).drop (i*s+s):=by
   rw[List.drop_drop,List.drop_drop]
   have e2:s+(i*s+s)=(i+1)*s+s:=by omega
   rw[e2];exact h4
  have hb:∀ b,b∈f1→h'[b]?=h[b]?:=by
   have:=(h5 f (f1++r) (fun x=>by have:=q1 x;simp only[List.count_append];omega) (by rw[←dd];exact q2)).1
   exact fun b hb=>this b (by simp[hb])
  simp only[List.set_cons_succ,skEs]
  refine⟨c0,es,rfl,by rw[ht1];exact skL_refl hb g3,skEs_set g4 h2 ht2 hd2 fun f' r' hb' hv=>?_⟩
  obtain⟨k1,k2⟩:=h5 f' (f1++r') (fun x=>by have:=hb' x;simp only[List.count_append];omega) (by rw[←dd];exact hv)
  exact⟨fun b hb=>k1 b (by simp[hb]),by rw[dd,dd];exact k2⟩
theorem Both.uniq_l {fs f r:List Nat} (h:Both fs f r) (hu:Uniq fs):Uniq f:=fun x=>by have:=h x;have:=hu x;omega
theorem Both.uniq_r {fs f r:List Nat} (h:Both fs f r) (hu:Uniq fs):Uniq r:=fun x=>by have:=h x;have:=hu x;omega
theorem Both.apart {fs f r:List Nat} (h:Both fs f r) (hu:Uniq fs) {x:Nat} (h1:x∈f) (h2:x∈r):False:=by
 have:=h x
 have:=hu x
 have:=List.count_pos_iff.2 h1
 have:=List.count_pos_iff.2 h2
 omega
theorem loc_head {sz h} {cs vs ad ad' c i rest t u} (h1:cs[c]?=some t) (h2:vs[c]?=some u):
  loc sz h cs vs ad ((c,i)::rest)=loc sz h [t] [u] ad' ((0,i)::rest):=by
 simp only[loc,h1,h2,List.getElem?_cons_zero]
theorem path_in {sz h I} {path:List (Nat×Nat)} {cs vs fs ad c0 vs0 b o} (hp:path≠[]) (hk:okL sz h I cs vs fs) (hu:Uniq fs)
  (hd:descend cs path=some c0) (hl:loc sz h cs vs ad path=some (c0,vs0,some (b,o))):b∈fs:=by
 obtain⟨b',o',arr,el,fz,f,r,a1,_,_,_,a5,a6,_⟩:=path_ok (ad:=ad) hp hk hu hd
 rw[a1] at hl
 simp only[Option.some.injEq,Prod.mk.injEq] at hl
 obtain⟨_,_,rfl,_⟩:=hl
 exact (a6.mem _).2 (.inr a5)
theorem path_sk {sz h h' I}:∀ {path:List (Nat×Nat)} {cs vs fs ad} {c0 c1 cs':List T} {vs1:List Value} {b o:Nat} {vs0:List Value} {arr arr':Array Value} {el el':TypeId} {fz fz':Nat×Nat} {g:List T→Option (List T)},
  path≠[]→okL sz h I cs vs fs→Uniq fs→descend cs path=some c0→loc sz h cs vs ad path=some (c0,vs0,some (b,o))→
  h[b]?=some (.cells arr el fz)→o+c0.length≤arr.size→(∀ x,x∈fs→x≠b→h'[x]?=h[x]?)→h'[b]?=some (.cells arr' el' fz')→
  arr'.toList=arr.toList.take o++vs1++arr.toList.drop (o+c0.length)→vs1.length=c0.length→g c0=some c1→c1.length=c0.length→
  skL sz h' h c1 c0 vs1 ((arr.toList.drop o).take c0.length)→graft g cs path=some cs'→skL sz h' h cs' cs vs vs:=by
 intro path
 induction path with
 | nil=>intro cs vs fs ad c0 c1 cs' vs1 b o vs0 arr arr' el el' fz fz' g hp;simp at hp
 | cons q rest ih=>
  obtain⟨c,i⟩:=q
  intro cs vs fs ad c0 c1 cs' vs1 b o vs0 arr arr' el el' fz fz' g _ hk hu hd hl hb hbo hr hb' harr hvl hg hlen hsk hgr
  have hd0:=hd
  simp only[descend] at hd
  cases hc:cs[c]? with
  | none=>rw[hc] at hd;simp at hd
  | some t=>
   rw[hc] at hd
   cases t with
   | own e es=>
    simp only at hd
    cases hi:es[i]? with
    | none=>rw[hi] at hd;simp at hd
    | some cs1=>
     rw[hi] at hd
     simp only at hd
     obtain⟨u,f,r,k1,k2,k3,_⟩:=okL_focus hk hc
     simp only[graft,hc,hi] at hgr
     cases hgi:graft g cs1 rest with
     | none=>rw[hgi] at hgr;simp at hgr
     | some cs2=>
      rw[hgi] at hgr
      simp only[Option.some.injEq] at hgr
      subst hgr
      have hl0:=hl
      rw[loc_head (ad':=none) hc k1] at hl0
      have:=skL_set (h':=h') (t':=.own e (es.set i cs2)) (u':=u) hk hc k1 ?_
      ·rw[set_self k1] at this;exact this
      intro f' r' hB hv
      have huf:=hB.uniq_l hu
      have hin:b∈f':=by
       refine path_in (I:=I) (path:=(0,i)::rest) (cs:=[.own e es]) (vs:=[u]) (ad:=none) (c0:=c0) (by simp) ?_ huf ?_ hl0
       ·simp only[okL]
        exact⟨u,[],f',[],rfl,by simp,hv,rfl,rfl⟩
       ·simp only[descend,List.getElem?_cons_zero,hi];exact hd
      refine⟨fun x hx=>hr x ((hB.mem x).2 (.inr hx)) (by rintro rfl;exact hB.apart hu hin hx),fun _=>rfl,?_⟩
      obtain⟨b1,o1,cap,arr1,el1,fz1,fs1,m1,m2,m3,m4,m5,rfl,m7⟩:=own_some hv hi
      have hil:i<es.length:=by
       rcases Nat.lt_or_ge i es.length with h | h
       ·exact h
       ·simp[List.getElem?_eq_none h] at hi
      have hbnd:o1+i*sz e+sz e≤arr1.size:=by
       have:(i+1)*sz e≤cap*sz e:=Nat.mul_le_mul_right _ (by omega)
       rw[Nat.add_mul,Nat.one_mul] at this
       omega
      have dd:(arr1.toList.drop o1).drop (i*sz e)=arr1.toList.drop (o1+i*sz e):=by rw[List.drop_drop]
      simp only[loc,List.getElem?_cons_zero,m1,hi,m3] at hl0
      have hu1:Uniq fs1:=fun x=>by have:=huf x;simp only[List.count_cons] at this;omega
      have hn1:b1∉fs1:=fun hx=>by
       have h1:=huf b1
       have h2:=List.count_pos_iff.2 hx
       simp only[List.count_cons_self] at h1
       omega
      have hlc:cs1.length=sz e:=(okEs_focus m7 hi).choose_spec.choose_spec.1
      simp only[skV]
      cases rest with
      | nil=>
       simp only[descend,Option.some.injEq] at hd
       subst hd
       simp only[loc,Option.some.injEq,Prod.mk.injEq] at hl0
       obtain⟨_,_,rfl,rfl⟩:=hl0
       rw[m3] at hb
       simp only[Option.some.injEq,Obj.cells.injEq] at hb
       obtain⟨rfl,rfl,rfl⟩:=hb
       simp only[graft] at hgi
       rw[hg] at hgi
       simp only[Option.some.injEq] at hgi
       subst hgi
       refine⟨es,rfl,by simp,.inr ⟨b1,o1,es.length,cap,arr',el',fz',arr1,el1,fz1,m1,hb',m3,?_⟩⟩
       have hdr:∀ k,k≤o1+i*sz e→arr'.toList.drop k=(arr1.toList.take (o1+i*sz e)).drop k++(vs1++arr1.toList.drop (o1+i*sz e+cs1.length)):=by
        intro k hk
        rw[harr,List.append_assoc,List.drop_append_of_le_length (by simp;omega)]
       have ht0:(arr1.toList.take (o1+i*sz e)).length=o1+i*sz e:=by simp;omega
       have q1:((arr'.toList.drop o1).drop (i*sz e)).take (sz e)=vs1:=by
        rw[List.drop_drop,hdr _ (Nat.le_refl _),List.drop_of_length_le (by omega),List.nil_append,List.take_append_of_le_length (by omega),List.take_of_length_le (by omega)]
       have q2:(arr'.toList.drop o1).take (i*sz e)=(arr1.toList.drop o1).take (i*sz e):=by
        rw[hdr _ (by omega),List.take_append_of_le_length (by simp;omega),List.drop_take]
        rw[List.take_take];congr 1;omega
       have q3:(arr'.toList.drop o1).drop (i*sz e+sz e)=(arr1.toList.drop o1).drop (i*sz e+sz e):=by
        rw[List.drop_drop,List.drop_drop,harr,List.drop_append,List.drop_of_length_le (by simp;omega),List.nil_append]
        rw[List.drop_drop];congr 1;simp;omega
       refine skEs_set m7 hi q2 q3 fun f2 r2 hB2 hv2=>⟨fun x hx=>hr x ((hB.mem x).2 (.inl (by simp[(hB2.mem x).2 (.inr hx)]))) ?_,?_⟩
       ·rintro rfl;exact hn1 ((hB2.mem _).2 (.inr hx))
       ·rw[q1,dd]
        rw[hlc] at hsk
        exact hsk
      | cons q2 rest'=>
       have hbb:b≠b1:=by
        rintro rfl
        obtain⟨fe,re,n1,n2,n3,_⟩:=okEs_focus m7 hi
        rw[dd] at n3
        have hbe:b∈fe:=path_in (path:=q2::rest') (by simp) n3 (n2.uniq_l hu1) hd hl0
        exact hn1 ((n2.mem _).2 (.inl hbe))
       have hb1:h'[b1]?=h[b1]?:=hr b1 ((hB.mem b1).2 (.inl (by simp))) (Ne.symm hbb)
       refine⟨es,rfl,by simp,.inr ⟨b1,o1,es.length,cap,arr1,el1,fz1,arr1,el1,fz1,m1,by rw[hb1];exact m3,m3,?_⟩⟩
       refine skEs_set m7 hi rfl rfl fun f2 r2 hB2 hv2=>?_
       rw[dd] at hv2
       have hbe:b∈f2:=path_in (path:=q2::rest') (by simp) hv2 (hB2.uniq_l hu1) hd hl0
       refine⟨fun x hx=>hr x ((hB.mem x).2 (.inl (by simp[(hB2.mem x).2 (.inr hx)]))) ?_,?_⟩
       ·rintro rfl;exact hB2.apart hu1 hbe hx
       ·rw[dd]
        exact ih (by simp) hv2 (hB2.uniq_l hu1) hd hl0 hb hbo (fun x hx hxb=>hr x ((hB.mem x).2 (.inl (by simp[(hB2.mem x).2 (.inl hx)]))) hxb) hb' harr hvl hg hlen hsk hgi
   | _=>simp at hd
structure Blk where
 b:Nat
 pre:List Value
 post:List Value
 el:TypeId
 fz:Nat×Nat
structure G where
 blk:Option Blk
 vals:List Value
 deriving Inhabited
def okRoot (sz:TypeId→Nat) (h:Array Obj) (I:Nat→Prop) (g:G) (r:Root) (fs:List Nat):Prop:=
 match g.blk with
 | none=>r.real=false∧okL sz h I r.cells g.vals fs
 | some b=>r.real=true∧∃ fs' arr,fs=b.b::fs'∧h[b.b]?=some (.cells arr b.el b.fz)∧fzFree b.fz arr.size∧arr.toList=b.pre++g.vals++b.post∧okL sz h I r.cells g.vals fs'
theorem okRoot_agree {sz h h' I I' g r fs} (ha:Agree h h' I I' fs) (hk:okRoot sz h I g r fs):okRoot sz h' I' g r fs:=by
 unfold okRoot at hk ⊢
 split at hk
 ·exact⟨hk.1,okL_agree ha hk.2⟩
 ·obtain⟨h1,fs',arr,rfl,h2,h3,h4,h5⟩:=hk
  exact⟨h1,fs',arr,rfl,by rw[ha.2 _ (by simp)];exact h2,h3,h4,okL_agree ha.tail h5⟩
def okRts (sz:TypeId→Nat) (h:Array Obj) (I:Nat→Prop) (gh:Nat→G):List (Nat×Root)→List Nat→Prop
 | [],fs=>fs=[]
 | (d,r)::rest,fs=>∃ f1 f2,fs=f1++f2∧okRoot sz h I (gh d) r f1∧okRts sz h I gh rest f2
theorem okRts_agree {sz h h' I I' gh}:∀ {rt fs},Agree h h' I I' fs→okRts sz h I gh rt fs→okRts sz h' I' gh rt fs
 | [],fs,_,hk=>hk
 | (d,r)::rest,fs,ha,hk=>by
  obtain⟨f1,f2,rfl,h1,h2⟩:=hk
  exact⟨f1,f2,rfl,okRoot_agree ha.left h1,okRts_agree ha.right h2⟩
def Srt {α:Type}:List (Nat×α)→Prop
 | []=>True
 | (k,_)::r=>(∀ p,p∈r→k<p.1)∧Srt r
theorem up_mem {α:Type}:∀ {l:List (Nat×α)} {d:Nat} {x:α} {p:Nat×α},p∈up l d x→p=(d,x)∨p∈l
 | [],d,x,p,h=>by simp only[up,List.mem_singleton] at h;exact .inl h
 | (k,y)::r,d,x,p,h=>by
  simp only[up] at h
  split at h
  ·rcases List.mem_cons.1 h with h | h
   ·exact .inl h
   ·exact .inr (List.mem_cons_of_mem _ h)
  ·split at h
   ·rcases List.mem_cons.1 h with h | h
    ·exact .inl h
    ·exact .inr h
   ·rcases List.mem_cons.1 h with h | h
    ·exact .inr (by simp[h])
    ·rcases up_mem h with h | h
     ·exact .inl h
     ·exact .inr (List.mem_cons_of_mem _ h)
theorem up_srt {α:Type}:∀ {l:List (Nat×α)} {d:Nat} {x:α},Srt l→Srt (up l d x)
 | [],d,x,_=>by simp[up,Srt]
 | (k,y)::r,d,x,h=>by
  simp only[up]
  split
  ·rename_i hk;subst hk;exact h
  ·split
   ·rename_i h1 h2
    refine⟨fun p hp=>?_,h⟩
    rcases List.mem_cons.1 hp with rfl | hp
    ·exact h2
    ·exact Nat.lt_trans h2 (h.1 p hp)
   ·rename_i h1 h2
    refine⟨fun p hp=>?_,up_srt h.2⟩
    rcases up_mem hp with rfl | hp
    ·show k<d;omega
    ·exact h.1 p hp
theorem lk_up_self {α:Type}:∀ (l:List (Nat×α)) (d:Nat) (x:α),lk (up l d x) d=some x
 | [],d,x=>by simp[up,lk]
 | (k,y)::r,d,x=>by
  simp only[up]
  split
  ·simp[lk]
  ·split
   ·simp[lk]
   ·rename_i h1 h2;simp[lk,h1,lk_up_self r d x]
theorem lk_up_ne {α:Type}:∀ (l:List (Nat×α)) (d:Nat) (x:α) (d':Nat),d'≠d→lk (up l d x) d'=lk l d'
 | [],d,x,d',h=>by simp[up,lk,Ne.symm h]
 | (k,y)::r,d,x,d',h=>by
  simp only[up]
  split
  ·rename_i hk;subst hk;simp[lk,Ne.symm h]
  ·split
   ·simp[lk,Ne.symm h]
   ·simp only[lk,lk_up_ne r d x d' h]
theorem lk_mem {α:Type}:∀ {l:List (Nat×α)} {d:Nat} {x:α},lk l d=some x→(d,x)∈l
 | [],d,x,h=>by simp[lk] at h
 | (k,y)::r,d,x,h=>by
  simp only[lk] at h
  split at h
  ·rename_i hk;subst hk;simp at h;subst h;simp
  ·exact List.mem_cons_of_mem _ (lk_mem h)
theorem lk_none_of_lt {α:Type}:∀ {l:List (Nat×α)} {d:Nat},(∀ p,p∈l→d<p.1)→lk l d=none
 | [],d,_=>rfl
 | (k,y)::r,d,h=>by
  have:d<k:=h (k,y) (by simp)
  simp only[lk]
  rw[if_neg (by omega)]
  exact lk_none_of_lt fun p hp=>h p (List.mem_cons_of_mem _ hp)
def gset (gh:Nat→G) (d:Nat) (g:G):Nat→G:=fun k=>if k=d then g else gh k
theorem okRts_gset {sz h I gh d g}:∀ {rt fs},(∀ p,p∈rt→p.1≠d)→okRts sz h I gh rt fs→okRts sz h I (gset gh d g) rt fs
 | [],fs,_,hk=>hk
 | (k,r)::rest,fs,hn,hk=>by
  obtain⟨f1,f2,rfl,h1,h2⟩:=hk
  have:k≠d:=hn (k,r) (by simp)
  exact⟨f1,f2,rfl,by simpa[gset,this] using h1,okRts_gset (fun p hp=>hn p (List.mem_cons_of_mem _ hp)) h2⟩
theorem okRts_get {sz h I gh}:∀ {rt fs} {d r},okRts sz h I gh rt fs→lk rt d=some r→∃ f,okRoot sz h I (gh d) r f∧∀ b,b∈f→b∈fs
 | [],fs,d,r,_,hl=>by simp[lk] at hl
 | (k,y)::rest,fs,d,r,hk,hl=>by
  obtain⟨f1,f2,rfl,h1,h2⟩:=hk
  simp only[lk] at hl
  split at hl
  ·rename_i hkd;subst hkd
   simp only[Option.some.injEq] at hl;subst hl
   exact⟨f1,h1,fun b hb=>by simp[hb]⟩
  ·obtain⟨f,g1,g2⟩:=okRts_get h2 hl
   exact⟨f,g1,fun b hb=>by simp[g2 b hb]⟩
theorem okRts_up {sz h I gh d}:∀ {rt fs},Srt rt→okRts sz h I gh rt fs→
  ∃ f r,Both fs f r∧(∀ x,lk rt d=some x→okRoot sz h I (gh d) x f)∧(lk rt d=none→f=[])∧
   (∀ d' x,d'≠d→lk rt d'=some x→∃ f',okRoot sz h I (gh d') x f'∧∀ b,b∈f'→b∈r)∧
   ∀ h' I' g1 r1 f1,Agree h h' I I' r→okRoot sz h' I' g1 r1 f1→∃ fs',okRts sz h' I' (gset gh d g1) (up rt d r1) fs'∧Both fs' f1 r
 | [],fs,_,hk=>by
  simp only[okRts] at hk
  subst hk
  refine⟨[],[],fun x=>by simp,fun x hx=>by simp[lk] at hx,fun _=>rfl,fun d' x _ hx=>by simp[lk] at hx,fun h' I' g1 r1 f1 _ hr=>⟨f1,?_,fun x=>by simp⟩⟩
  simp only[up,okRts]
  exact⟨f1,[],by simp,by simpa[gset] using hr,rfl⟩
 | (k,y)::rest,fs,hs,hk=>by
  obtain⟨f1,f2,rfl,h1,h2⟩:=hk
  by_cases hkd:k=d
  ·subst hkd
   refine⟨f1,f2,fun x=>by simp,fun x hx=>?_,fun hx=>by simp[lk] at hx,fun d' x hd hx=>?_,fun h' I' g1 r1 f0 ha hr=>⟨f0++f2,?_,fun x=>by simp⟩⟩
   ·simp[lk] at hx;subst hx;exact h1
   ·simp only[lk,if_neg (Ne.symm hd)] at hx
    exact okRts_get h2 hx
   ·simp only[up,if_true]
    exact⟨f0,f2,rfl,by simpa[gset] using hr,okRts_gset (fun p hp=>by have:=hs.1 p hp;omega) (okRts_agree ha h2)⟩
  ·by_cases hlt:d<k
   ·refine⟨[],f1++f2,fun x=>by simp,fun x hx=>?_,fun _=>rfl,fun d' x hd hx=>okRts_get (rt:=(k,y)::rest) ⟨f1,f2,rfl,h1,h2⟩ hx,fun h' I' g1 r1 f0 ha hr=>⟨f0++(f1++f2),?_,fun x=>by simp⟩⟩
    ·simp only[lk,if_neg hkd] at hx
     rw[lk_none_of_lt fun p hp=>Nat.lt_trans hlt (hs.1 p hp)] at hx
     simp at hx
    ·simp only[up,if_neg hkd,if_pos hlt]
     refine⟨f0,f1++f2,rfl,by simpa[gset] using hr,?_⟩
     refine okRts_gset (fun p hp=>?_) (okRts_agree ha ⟨f1,f2,rfl,h1,h2⟩)
     rcases List.mem_cons.1 hp with rfl | hp
     ·exact hkd
     ·have:=hs.1 p hp;omega
   ·obtain⟨f,r,q1,q2,q3,q5,q4⟩:=okRts_up (d:=d) hs.2 h2
    refine⟨f,f1++r,fun x=>?_,fun x hx=>?_,fun hx=>?_,fun d' x hd hx=>?_,fun h' I' g1 r1 f0 ha hr=>?_⟩
    ·have:=q1 x;simp only[List.count_append];omega
    ·simp only[lk,if_neg hkd] at hx;exact q2 x hx
    ·simp only[lk,if_neg hkd] at hx;exact q3 hx
    ·simp only[lk] at hx
     split at hx
     ·rename_i hkd';subst hkd'
      simp only[Option.some.injEq] at hx;subst hx
      exact⟨f1,h1,fun b hb=>by simp[hb]⟩
     ·obtain⟨f',g1,g2⟩:=q5 d' x hd hx
      exact⟨f',g1,fun b hb=>by simp[g2 b hb]⟩
    ·obtain⟨fs',p1,p2⟩:=q4 h' I' g1 r1 f0 ha.right hr
     refine⟨f1++fs',?_,fun x=>?_⟩
     ·simp only[up,if_neg hkd,if_neg hlt]
      exact⟨f1,fs',rfl,by simpa[gset,hkd] using okRoot_agree ha.left h1,p1⟩
     ·have:=p2 x;simp only[List.count_append];omega
structure Cx where
 sz:TypeId→Nat
 h:Array Obj
 I:Nat→Prop
 rt:List (Nat×Root)
 gh:Nat→G
def Cx.addr (x:Cx) (d:Nat):Option (Nat×Nat):=(x.gh d).blk.map fun b=>(b.b,b.pre.length)
def okRef (x:Cx) (d ver:Nat) (path:List (Nat×Nat)) (c n:Nat) (u:Value):Prop:=
 ∀ r,lk x.rt d=some r→r.hver=ver→∀ cs vs ad,loc x.sz x.h r.cells (x.gh d).vals (x.addr d) path=some (cs,vs,ad)→
  ∀ e es,cs[c]?=some (.own e es)→es.length=n→vs[c]?=some u
def okPtr (x:Cx) (d ver:Nat) (path:List (Nat×Nat)) (off:Nat) (u:Value):Prop:=
 match path with
 | []=>∀ r,lk x.rt d=some r→r.ver=ver→∃ b,(x.gh d).blk=some b∧u=.pointer (some ⟨b.b,b.pre.length+off,none⟩)
 | p=>∀ r,lk x.rt d=some r→r.hver=ver→∀ cs vs b o,loc x.sz x.h r.cells (x.gh d).vals (x.addr d) p=some (cs,vs,some (b,o))→
  u=.pointer (some ⟨b,o+off,none⟩)
def okX0 (x:Cx):T→Value→Prop
 | .ref d ver path c n,u=>(∃ a cap,u=.slice a n cap)∧okRef x d ver path c n u
 | .ptr d ver path off,u=>(∃ ad,u=.pointer (some ad))∧okPtr x d ver path off u
 | .bx d ver path off,u=>∃ b arr el fz u',u=.pointer (some ⟨b,0,none⟩)∧x.I b∧x.h[b]?=some (.cells arr el fz)∧arr.toList=[u']∧(∃ ad,u'=.pointer (some ad))∧okPtr x d ver path off u'
 | t,u=>okV x.sz x.h x.I t u []
def All2 {α β:Type} (R:α→β→Prop):List α→List β→Prop
 | [],bs=>bs=[]
 | a::as,bs=>∃ b bs',bs=b::bs'∧R a b∧All2 R as bs'
def okX1 (x:Cx):T→Value→Prop
 | .agg cs,u=>∃ us:List Value,u=.agg us.toArray∧All2 (okX0 x) cs us
 | .clo f caps,u=>∃ us:List Value,u=.func (.func f) #[] us.toArray∧All2 (okX0 x) caps us
 | t,u=>okX0 x t u
def okX (x:Cx):T→Value→Prop
 | .tup ts,u=>∃ us:List Value,u=.tuple us.toArray∧All2 (okX1 x) ts us
 | t,u=>okX1 x t u
def st0 (S:Nat→Nat→Prop):T→Prop
 | .ref d ver _ _ _=>S d ver
 | .ptr d ver _ _=>S d ver
 | .bx d ver _ _=>S d ver
 | _=>True
def st1 (S:Nat→Nat→Prop):T→Prop
 | .agg cs=>∀ t,t∈cs→st0 S t
 | .clo _ cs=>∀ t,t∈cs→st0 S t
 | t=>st0 S t
def stX (S:Nat→Nat→Prop):T→Prop
 | .tup ts=>∀ t,t∈ts→st1 S t
 | t=>st1 S t
structure Keeps (x y:Cx) (S:Nat→Nat→Prop):Prop where
 sz:y.sz=x.sz
 old:∀ b,x.I b→y.I b∧y.h[b]?=x.h[b]?
 hdr:∀ d s r',S d s→lk y.rt d=some r'→r'.hver=s→∃ r,lk x.rt d=some r∧r.hver=s∧(y.gh d).blk=(x.gh d).blk∧
  skL x.sz y.h x.h r'.cells r.cells (y.gh d).vals (x.gh d).vals
 top:∀ d s r',S d s→lk y.rt d=some r'→r'.ver=s→∃ r,lk x.rt d=some r∧r.ver=s∧(y.gh d).blk=(x.gh d).blk
theorem Keeps.x0 {x y S} (k:Keeps x y S):∀ {t u},st0 S t→okX0 x t u→okX0 y t u:=by
 intro t u hs hk
 have cl:∀ t,okV x.sz x.h x.I t u []→okV y.sz y.h y.I t u []:=fun t hv=>by
  rw[k.sz];exact okV_agree ⟨k.old,fun b hb=>by simp at hb⟩ hv
 have pt:∀ {d ver path off u},S d ver→okPtr x d ver path off u→okPtr y d ver path off u:=by
  intro d ver path off u hs hk
  simp only[okPtr] at hk ⊢
  cases path with
  | nil=>
   intro r' h1 h2
   obtain⟨r,g1,g2,g3⟩:=k.top d ver r' hs h1 h2
   obtain⟨b,q1,q2⟩:=hk r g1 g2
   exact⟨b,by rw[g3];exact q1,q2⟩
  | cons p ps=>
   intro r' h1 h2 cs' vs' b o h3
   obtain⟨r,g1,g2,g3,g4⟩:=k.hdr d ver r' hs h1 h2
   rw[k.sz] at h3
   have ha:y.addr d=x.addr d:=by simp[Cx.addr,g3]
   rw[ha] at h3
   obtain⟨cs,vs,g5,_⟩:=sk_loc g4 h3
   exact hk r g1 g2 cs vs b o g5
 cases t with
 | ref d ver path c n=>
  refine⟨hk.1,?_⟩
  replace hk:=hk.2
  intro r' h1 h2 cs' vs' ad' h3 e es h4 h5
  obtain⟨r,g1,g2,g3,g4⟩:=k.hdr d ver r' hs h1 h2
  rw[k.sz] at h3
  have ha:y.addr d=x.addr d:=by simp[Cx.addr,g3]
  rw[ha] at h3
  obtain⟨cs,vs,g5,g6⟩:=sk_loc g4 h3
  obtain⟨t,u',u0,q1,q2,q3,q4,q5⟩:=skL_get g6 h4
  simp only[skV] at q5
  obtain⟨es0,rfl,hl,_⟩:=q5
  have:=hk r g1 g2 cs vs ad' g5 e es0 q1 (by omega)
  rw[q3] at this
  simp only[Option.some.injEq] at this
  rw[q2,q4 rfl,this]
 | ptr d ver path off=>exact⟨hk.1,pt hs hk.2⟩
 | bx d ver path off=>
  obtain⟨b,arr,el,fz,u',h1,h2,h3,h4,h5,h6⟩:=hk
  obtain⟨g1,g2⟩:=k.old b h2
  exact⟨b,arr,el,fz,u',h1,g1,by rw[g2];exact h3,h4,h5,pt hs h6⟩
 | v _=>exact cl _ hk
 | agg _=>exact cl _ hk
 | tup _=>exact cl _ hk
 | sl _ _=>exact cl _ hk
 | own _ _=>exact cl _ hk
 | ipt _=>exact cl _ hk
 | clo _ _=>exact cl _ hk
 | dead=>exact cl _ hk
 | hdr n=>exact cl _ hk
 | obx _=>exact cl _ hk
theorem All2.imp {α β:Type} {R Q:α→β→Prop}:∀ {as:List α} {bs:List β},(∀ a b,a∈as→R a b→Q a b)→All2 R as bs→All2 Q as bs
 | [],bs,_,h=>h
 | a::as,bs,hi,h=>by
  obtain⟨b,bs',rfl,h1,h2⟩:=h
  exact⟨b,bs',rfl,hi a b (by simp) h1,All2.imp (fun a b ha=>hi a b (by simp[ha])) h2⟩
theorem Keeps.x1 {x y S} (k:Keeps x y S) {t u} (hs:st1 S t) (hk:okX1 x t u):okX1 y t u:=by
 cases t with
 | agg cs=>obtain⟨us,h1,h2⟩:=hk;exact⟨us,h1,h2.imp fun a b ha hr=>k.x0 (hs a ha) hr⟩
 | clo f cs=>obtain⟨us,h1,h2⟩:=hk;exact⟨us,h1,h2.imp fun a b ha hr=>k.x0 (hs a ha) hr⟩
 | ref a0 a1 a2 a3 a4=>exact k.x0 (t:=.ref a0 a1 a2 a3 a4) hs hk
 | ptr a0 a1 a2 a3=>exact k.x0 (t:=.ptr a0 a1 a2 a3) hs hk
 | bx a0 a1 a2 a3=>exact k.x0 (t:=.bx a0 a1 a2 a3) hs hk
 | v a0=>exact k.x0 (t:=.v a0) hs hk
 | tup a0=>exact k.x0 (t:=.tup a0) hs hk
 | sl a0 a1=>exact k.x0 (t:=.sl a0 a1) hs hk
 | own a0 a1=>exact k.x0 (t:=.own a0 a1) hs hk
 | ipt a0=>exact k.x0 (t:=.ipt a0) hs hk
 | dead=>exact k.x0 (t:=.dead) (u:=u) hs hk
 | hdr n=>exact k.x0 (t:=.hdr n) (u:=u) hs hk
 | obx a0=>exact k.x0 (t:=.obx a0) hs hk
theorem Keeps.x {x y S} (k:Keeps x y S) {t u} (hs:stX S t) (hk:okX x t u):okX y t u:=by
 cases t with
 | tup cs=>obtain⟨us,h1,h2⟩:=hk;exact⟨us,h1,h2.imp fun a b ha hr=>k.x1 (hs a ha) hr⟩
 | ref a0 a1 a2 a3 a4=>exact k.x1 (t:=.ref a0 a1 a2 a3 a4) hs hk
 | ptr a0 a1 a2 a3=>exact k.x1 (t:=.ptr a0 a1 a2 a3) hs hk
 | bx a0 a1 a2 a3=>exact k.x1 (t:=.bx a0 a1 a2 a3) hs hk
 | v a0=>exact k.x1 (t:=.v a0) hs hk
 | agg a0=>exact k.x1 (t:=.agg a0) hs hk
 | sl a0 a1=>exact k.x1 (t:=.sl a0 a1) hs hk
 | own a0 a1=>exact k.x1 (t:=.own a0 a1) hs hk
 | ipt a0=>exact k.x1 (t:=.ipt a0) hs hk
 | clo a0 a1=>exact k.x1 (t:=.clo a0 a1) hs hk
 | dead=>exact k.x1 (t:=.dead) (u:=u) hs hk
 | hdr n=>exact k.x1 (t:=.hdr n) (u:=u) hs hk
 | obx a0=>exact k.x1 (t:=.obx a0) hs hk
structure Zn where
 w0:World
 F0:List Nat
 I0:Nat→Prop
 ok:∀ b,I0 b→b<w0.heap.size∧b∉F0
 gok:∀ g p,theGl g=some p→I0 g∧∃ arr el fz,w0.heap[g]?=some (.cells arr el fz)∧p arr.toList
structure Fr (z:Zn) (w:World):Prop where
 os:w.os=z.w0.os
 output:w.output=z.w0.output
 tape:w.tape=z.w0.tape
 size:z.w0.heap.size≤w.heap.size
 block:∀ b,b<z.w0.heap.size→b∉z.F0→w.heap[b]?=z.w0.heap[b]?
def Inow (z:Zn) (w:World) (tot:List Nat) (b:Nat):Prop:=z.I0 b∨((b∈z.F0∨z.w0.heap.size≤b)∧b<w.heap.size∧b∉tot)
structure HRel (sz:TypeId→Nat) (z:Zn) (rt:List (Nat×Root)) (gh:Nat→G) (w:World) (FS X:List Nat):Prop where
 srt:Srt rt
 roots:okRts sz w.heap (Inow z w (FS++X)) gh rt FS
 uniq:Uniq (FS++X)
 lt:∀ b,b∈FS++X→b<w.heap.size
 zone:∀ b,b∈FS++X→b∈z.F0∨z.w0.heap.size≤b
 fr:Fr z w
theorem HRel.gok {sz z rt gh w FS X} (r:HRel sz z rt gh w FS X):∀ g p,theGl g=some p→Inow z w (FS++X) g∧∃ arr el fz,w.heap[g]?=some (.cells arr el fz)∧p arr.toList:=fun g p h=>by
 obtain⟨h1,arr,el,fz,h2,h3⟩:=z.gok g p h
 obtain⟨h4,h5⟩:=z.ok g h1
 exact⟨.inl h1,arr,el,fz,(r.fr.block g h4 h5).trans h2,h3⟩
theorem HRel.imm {sz z rt gh w FS X} (r:HRel sz z rt gh w FS X) {b:Nat} (h:Inow z w (FS++X) b):b<w.heap.size∧b∉FS++X:=by
 rcases h with h | h
 ·obtain⟨h1,h2⟩:=z.ok b h
  refine⟨Nat.lt_of_lt_of_le h1 r.fr.size,fun hb=>?_⟩
  rcases r.zone b hb with h3 | h3
  ·exact h2 h3
  ·omega
 ·exact⟨h.2.1,h.2.2⟩
theorem HRel.imm_grow {sz z rt gh w FS X} (r:HRel sz z rt gh w FS X) {w':World} {tot':List Nat} (hs:w.heap.size≤w'.heap.size)
  (ht:∀ b,b∈tot'→b∈FS++X∨w.heap.size≤b) {b:Nat} (h:Inow z w (FS++X) b):Inow z w' tot' b:=by
 have hi:=r.imm h
 rcases h with h | h
 ·exact .inl h
 ·refine .inr ⟨h.1,by omega,fun hb=>?_⟩
  rcases ht b hb with h1 | h1
  ·exact hi.2 h1
  ·omega
theorem Fr.step {z w w'} (f:Fr z w) {tot:List Nat} (hz:∀ b,b∈tot→b∈z.F0∨z.w0.heap.size≤b) (h1:w'.os=w.os) (h2:w'.output=w.output) (h3:w'.tape=w.tape)
  (h4:w.heap.size≤w'.heap.size) (h5:∀ b,b<w.heap.size→b∉tot→w'.heap[b]?=w.heap[b]?):Fr z w':=
 ⟨h1.trans f.os,h2.trans f.output,h3.trans f.tape,Nat.le_trans f.size h4,fun b hb hn=>by
  rw[h5 b (Nat.lt_of_lt_of_le hb f.size) fun ht=>?_]
  ·exact f.block b hb hn
  ·rcases hz b ht with h | h
   ·exact hn h
   ·omega⟩
theorem HRel.same {sz z rt gh w FS X} (r:HRel sz z rt gh w FS X) {X':List Nat} (hX:∀ x,X'.count x≤X.count x):HRel sz z rt gh w FS X':=by
 have hm:∀ b,b∈FS++X'→b∈FS++X:=fun b hb=>by
  have:=List.count_pos_iff.2 hb
  have h2:=hX b
  rw[←List.count_pos_iff]
  simp only[List.count_append] at *
  omega
 refine⟨r.srt,okRts_agree ⟨fun b hb=>⟨r.imm_grow (Nat.le_refl _) (fun b hb=>.inl (hm b hb)) hb,rfl⟩,fun b _=>rfl⟩ r.roots,fun x=>?_,fun b hb=>r.lt b (hm b hb),fun b hb=>r.zone b (hm b hb),r.fr⟩
 have:=r.uniq x
 have:=hX x
 simp only[List.count_append] at *
 omega
def Stm (tick:Nat) (rt:List (Nat×Root)) (d s:Nat):Prop:=s≤tick∧(s=tick→∃ r,lk rt d=some r∧r.ver=tick)
def Vers (tick:Nat) (rt:List (Nat×Root)):Prop:=∀ d r,lk rt d=some r→r.ver≤r.hver∧r.hver≤tick+1∧r.ver≤tick
theorem okRoot_sk {sz h I g r f h'} (hk:okRoot sz h I g r f) (ha:∀ b,b∈f→h'[b]?=h[b]?):skL sz h' h r.cells r.cells g.vals g.vals:=by
 unfold okRoot at hk
 split at hk
 ·exact skL_refl ha hk.2
 ·obtain⟨_,fs',arr,rfl,_,_,_,h6⟩:=hk
  exact skL_refl (fun b hb=>ha b (by simp[hb])) h6
theorem skL_self {sz h I gh} {rt fs} (hk:okRts sz h I gh rt fs) {h':Array Obj} (ha:∀ b,b∈fs→h'[b]?=h[b]?) {d r} (hl:lk rt d=some r):
  skL sz h' h r.cells r.cells (gh d).vals (gh d).vals:=by
 induction rt generalizing fs with
 | nil=>simp[lk] at hl
 | cons p rest ih=>
  obtain⟨k,y⟩:=p
  obtain⟨f1,f2,rfl,h1,h2⟩:=hk
  simp only[lk] at hl
  split at hl
  ·rename_i hkd;subst hkd
   simp only[Option.some.injEq] at hl;subst hl
   unfold okRoot at h1
   split at h1
   ·exact skL_refl (fun b hb=>ha b (by simp[hb])) h1.2
   ·obtain⟨_,fs',arr,rfl,_,_,_,h6⟩:=h1
    exact skL_refl (fun b hb=>ha b (by simp[hb])) h6
  ·exact ih h2 (fun b hb=>ha b (by simp[hb])) hl
theorem HRel.lay {sz z rt gh w FS X f} {tick d:Nat} {g:G} {r1:Root} (r:HRel sz z rt gh w FS (f++X))
  (hv:r1.ver=tick) (hv2:r1.hver=tick) (hold:∀ r0,lk rt d=some r0→r0.ver<tick)
  (hr:okRoot sz w.heap (Inow z w (FS++(f++X))) g r1 f):
  ∃ FS',HRel sz z (up rt d r1) (gset gh d g) w FS' X∧
   Keeps ⟨sz,w.heap,Inow z w (FS++(f++X)),rt,gh⟩ ⟨sz,w.heap,Inow z w (FS'++X),up rt d r1,gset gh d g⟩ (Stm tick rt):=by
 obtain⟨fo,rr,q1,_,_,_,q4⟩:=okRts_up (d:=d) r.srt r.roots
 obtain⟨FS',p1,p2⟩:=q4 w.heap _ g r1 f ⟨fun b hb=>⟨hb,rfl⟩,fun b _=>rfl⟩ hr
 have hm:∀ b,b∈FS'++X→b∈FS++(f++X):=fun b hb=>by
  have h0:=List.count_pos_iff.2 hb
  have h1:=q1 b
  have h2:=p2 b
  rw[←List.count_pos_iff]
  simp only[List.count_append] at *
  omega
 have hI:∀ b,Inow z w (FS++(f++X)) b→Inow z w (FS'++X) b:=fun b hb=>r.imm_grow (Nat.le_refl _) (fun b hb=>.inl (hm b hb)) hb
 refine⟨FS',⟨up_srt r.srt,okRts_agree ⟨fun b hb=>⟨hI b hb,rfl⟩,fun b _=>rfl⟩ p1,fun x=>?_,fun b hb=>r.lt b (hm b hb),fun b hb=>r.zone b (hm b hb),r.fr⟩,rfl,fun b hb=>⟨hI b hb,rfl⟩,?_,?_⟩
 ·have h1:=q1 x
  have h2:=p2 x
  have h3:=r.uniq x
  simp only[List.count_append] at *
  omega
 ·intro d' s r' hs h1 h2
  by_cases hd:d'=d
  ·subst hd
   simp only[lk_up_self,Option.some.injEq] at h1
   subst h1
   obtain⟨r0,g1,g2⟩:=hs.2 (by omega)
   have:=hold r0 g1
   omega
  ·simp only[lk_up_ne _ _ _ _ hd] at h1
   refine⟨r',h1,h2,by simp[gset,hd],?_⟩
   simp only[gset,if_neg hd]
   exact skL_self r.roots (fun b _=>rfl) h1
 ·intro d' s r' hs h1 h2
  by_cases hd:d'=d
  ·subst hd
   simp only[lk_up_self,Option.some.injEq] at h1
   subst h1
   obtain⟨r0,g1,g2⟩:=hs.2 (by omega)
   have:=hold r0 g1
   omega
  ·simp only[lk_up_ne _ _ _ _ hd] at h1
   exact⟨r',h1,h2,by simp[gset,hd]⟩
theorem HRel.alloc {sz z rt gh w FS X} (r:HRel sz z rt gh w FS X) (o:Obj):
  HRel sz z rt gh (w.alloc o) FS (w.heap.size::X)∧
   Keeps ⟨sz,w.heap,Inow z w (FS++X),rt,gh⟩ ⟨sz,(w.alloc o).heap,Inow z (w.alloc o) (FS++(w.heap.size::X)),rt,gh⟩ (fun _ _=>True)∧
   (w.alloc o).heap[w.heap.size]?=some o∧(∀ b,b<w.heap.size→(w.alloc o).heap[b]?=w.heap[b]?):=by
 have hnew:(w.alloc o).heap[w.heap.size]?=some o:=by show (w.heap.push o)[w.heap.size]?=some o;simp
 have hold:∀ b,b<w.heap.size→(w.alloc o).heap[b]?=w.heap[b]?:=fun b hb=>by
  show (w.heap.push o)[b]?=_
  rw[Array.getElem?_push,if_neg (by omega)]
 have hsz:(w.alloc o).heap.size=w.heap.size+1:=by show (w.heap.push o).size=_;simp
 have hI:∀ b,Inow z w (FS++X) b→Inow z (w.alloc o) (FS++(w.heap.size::X)) b:=fun b hb=>
  r.imm_grow (by omega) (fun b hb=>by
   simp only[List.mem_append,List.mem_cons] at hb ⊢
   rcases hb with h | rfl | h
   ·exact .inl (.inl h)
   ·exact .inr (Nat.le_refl _)
   ·exact .inl (.inr h)) hb
 have hfs:∀ b,b∈FS→(w.alloc o).heap[b]?=w.heap[b]?:=fun b hb=>hold b (r.lt b (by simp[hb]))
 have hag:∀ b,Inow z w (FS++X) b→Inow z (w.alloc o) (FS++(w.heap.size::X)) b∧(w.alloc o).heap[b]?=w.heap[b]?:=fun b hb=>⟨hI b hb,hold b (r.imm hb).1⟩
 refine⟨⟨r.srt,okRts_agree ⟨hag,hfs⟩ r.roots,fun x=>?_,fun b hb=>?_,fun b hb=>?_,?_⟩,⟨rfl,hag,fun d s r' _ h1 h2=>⟨r',h1,h2,rfl,skL_self r.roots hfs h1⟩,fun d s r' _ h1 h2=>⟨r',h1,h2,rfl⟩⟩,hnew,hold⟩
 ·have h1:=r.uniq x
  simp only[List.count_append,List.count_cons] at *
  by_cases hx:w.heap.size=x
  ·subst hx
   have:(FS++X).count w.heap.size=0:=List.count_eq_zero.2 fun hm=>by have:=r.lt _ hm;omega
   simp only[List.count_append] at this
   simp;omega
  ·have:(w.heap.size==x)=false:=by simpa using hx
   rw[this];simpa using h1
 ·rw[hsz]
  simp only[List.mem_append,List.mem_cons] at hb
  rcases hb with h | rfl | h
  ·have:=r.lt b (by simp[h]);omega
  ·omega
  ·have:=r.lt b (by simp[h]);omega
 ·simp only[List.mem_append,List.mem_cons] at hb
  rcases hb with h | rfl | h
  ·exact r.zone b (by simp[h])
  ·exact .inr r.fr.size
  ·exact r.zone b (by simp[h])
 ·exact r.fr.step r.zone rfl rfl rfl (by omega) fun b hb _=>hold b hb
theorem gset_self (gh:Nat→G) (d:Nat):gset gh d (gh d)=gh:=by
 funext k;simp only[gset];split
 ·rename_i h;rw[h]
 ·rfl
theorem skV_of_not {sz h' h t' t u} (hn:isOwn t'=false):skV sz h' h t' t u:=by
 cases t'<;>first | (simp[isOwn] at hn;done) | simp only[skV]
structure TurnOk (sz:TypeId→Nat) (h' h:Array Obj) (tick:Nat) (rt:List (Nat×Root)) (d:Nat) (ro:Root) (cells':List T) (hv:Nat) (vals' vals:List Value):Prop where
 ok:(hv=ro.hver∧skL sz h' h cells' ro.cells vals' vals)∨hv=nxt tick ro
theorem HRel.turn {sz z rt gh w FS X} {tick d:Nat} {ro:Root} {g1:G} {cells':List T} {hv:Nat} {w':World} {Ex:List Nat→Prop} (r:HRel sz z rt gh w FS X)
  (hl:lk rt d=some ro) (hb:g1.blk=(gh d).blk) (hos:w'.os=w.os) (hou:w'.output=w.output) (hta:w'.tape=w.tape) (hsz:w.heap.size≤w'.heap.size)
  (h:∀ f rr,Both FS f rr→okRoot sz w.heap (Inow z w (FS++X)) (gh d) ro f→∃ f1 X',Ex X'∧
   (∀ b,b∈rr→w'.heap[b]?=w.heap[b]?)∧(∀ b,b<w.heap.size→b∉FS++X→w'.heap[b]?=w.heap[b]?)∧
   (∀ x,(f1++X').count x≤(f++X).count x∨(w.heap.size≤x∧x<w'.heap.size∧(f1++X').count x≤1))∧
   ((∀ b,Inow z w (FS++X) b→Inow z w' (f1++rr++X') b)→okRoot sz w'.heap (Inow z w' (f1++rr++X')) g1 { ro with cells:=cells',hver:=hv } f1)∧
   TurnOk sz w'.heap w.heap tick rt d ro cells' hv g1.vals (gh d).vals):
  ∃ FS' X',Ex X'∧HRel sz z (up rt d { ro with cells:=cells',hver:=hv }) (gset gh d g1) w' FS' X'∧
   Keeps ⟨sz,w.heap,Inow z w (FS++X),rt,gh⟩ ⟨sz,w'.heap,Inow z w' (FS'++X'),up rt d { ro with cells:=cells',hver:=hv },gset gh d g1⟩ (Stm tick rt):=by
 obtain⟨f,rr,q1,q2,_,q5,q4⟩:=okRts_up (d:=d) r.srt r.roots
 obtain⟨f1,X',hEx,k1,k2,k3,k4,k5⟩:=h f rr q1 (q2 ro hl)
 have hm0:∀ b,b∈f1++rr++X'→b∈FS++X∨w.heap.size≤b:=fun b hb=>by
  have h1:=q1 b
  have h3:0<(f1++rr++X').count b:=List.count_pos_iff.2 hb
  rcases k3 b with h2 | h2
  ·refine .inl (List.count_pos_iff.1 ?_)
   simp only[List.count_append] at *
   omega
  ·exact .inr h2.1
 have hI0:∀ b,Inow z w (FS++X) b→Inow z w' (f1++rr++X') b:=fun b hb=>r.imm_grow hsz hm0 hb
 obtain⟨FS',p1,p2⟩:=q4 w'.heap (Inow z w' (f1++rr++X')) g1 { ro with cells:=cells',hver:=hv } f1 ⟨fun b hb=>⟨hI0 b hb,k2 b (r.imm hb).1 (r.imm hb).2⟩,k1⟩ (k4 hI0)
 have hmem:∀ b,b∈FS'++X'↔b∈f1++rr++X':=fun b=>by
  have:=p2.mem b
  simp only[List.mem_append,this]
 have hIe:∀ b,Inow z w' (f1++rr++X') b↔Inow z w' (FS'++X') b:=fun b=>by
  simp only[Inow,hmem b]
 have hI:∀ b,Inow z w (FS++X) b→Inow z w' (FS'++X') b:=fun b hb=>(hIe b).1 (hI0 b hb)
 have hlt:∀ b,b∈FS'++X'→b<w'.heap.size:=fun b hb=>by
  have hb':=(hmem b).1 hb
  have h1:=q1 b
  have h3:0<(f1++rr++X').count b:=List.count_pos_iff.2 hb'
  rcases k3 b with h2 | h2
  ·have:b∈FS++X:=List.count_pos_iff.1 (by simp only[List.count_append] at *;omega)
   have:=r.lt b this
   omega
  ·exact h2.2.1
 refine⟨FS',X',hEx,⟨up_srt r.srt,okRts_agree ⟨fun b hb=>⟨(hIe b).1 hb,rfl⟩,fun b _=>rfl⟩ p1,fun x=>?_,hlt,fun b hb=>?_,?_⟩,
  rfl,fun b hb=>⟨hI b hb,k2 b (r.imm hb).1 (r.imm hb).2⟩,?_,?_⟩
 ·have h1:=q1 x
  have h2:=p2 x
  have h3:=r.uniq x
  rcases k3 x with h4 | h4
  ·simp only[List.count_append] at *
   omega
  ·have h5:(FS++X).count x=0:=List.count_eq_zero.2 fun hm=>by have:=r.lt x hm;omega
   simp only[List.count_append] at *
   omega
 ·rcases hm0 b ((hmem b).1 hb) with h1 | h1
  ·exact r.zone b h1
  ·exact .inr (Nat.le_trans r.fr.size h1)
 ·exact r.fr.step r.zone hos hou hta hsz k2
 ·intro d' s r' hs h1 h2
  by_cases hd:d'=d
  ·subst hd
   simp only[lk_up_self,Option.some.injEq] at h1
   subst h1
   rcases k5.ok with⟨e1,e2⟩ | e1
   ·exact⟨ro,hl,by rw[←h2,e1],by simpa[gset] using hb,by simpa[gset] using e2⟩
   ·exfalso
    have h2:hv=s:=h2
    have h3:=hs.1
    unfold nxt at e1
    split at e1
    ·obtain⟨r0,g1,g2⟩:=hs.2 (by rw[←h2];exact e1)
     rw[hl] at g1
     simp only[Option.some.injEq] at g1
     subst g1
     omega
    ·omega
  ·simp only[lk_up_ne _ _ _ _ hd] at h1
   refine⟨r',h1,h2,by simp[gset,hd],?_⟩
   simp only[gset,if_neg hd]
   obtain⟨f',g2,g3⟩:=q5 d' r' hd h1
   exact okRoot_sk g2 fun b hb=>k1 b (g3 b hb)
 ·intro d' s r' hs h1 h2
  by_cases hd:d'=d
  ·subst hd
   simp only[lk_up_self,Option.some.injEq] at h1
   subst h1
   exact⟨ro,hl,h2,by simpa[gset] using hb⟩
  ·simp only[lk_up_ne _ _ _ _ hd] at h1
   exact⟨r',h1,h2,by simp[gset,hd]⟩
theorem HRel.take_top {sz z rt gh w FS X} {d c:Nat} {ro:Root} {t:T} (tick:Nat) (r:HRel sz z rt gh w FS X) (hl:lk rt d=some ro) (hc:ro.cells[c]?=some t):
  ∃ FS' f u,(gh d).vals[c]?=some u∧okV sz w.heap (Inow z w (FS++X)) t u f∧
   HRel sz z (up rt d { ro with cells:=ro.cells.set c .dead }) gh w FS' (f++X)∧
   Keeps ⟨sz,w.heap,Inow z w (FS++X),rt,gh⟩ ⟨sz,w.heap,Inow z w (FS'++(f++X)),up rt d { ro with cells:=ro.cells.set c .dead },gh⟩ (Stm tick rt):=by
 have:=r.turn (tick:=tick) (w':=w) (g1:=gh d) (cells':=ro.cells.set c .dead) (hv:=ro.hver)
  (Ex:=fun X'=>∃ f u,X'=f++X∧(gh d).vals[c]?=some u∧okV sz w.heap (Inow z w (FS++X)) t u f) hl rfl rfl rfl rfl (Nat.le_refl _) ?_
 ·obtain⟨FS',X',⟨f,u,rfl,h1,h2⟩,h3,h4⟩:=this
  rw[gset_self] at h3 h4
  exact⟨FS',f,u,h1,h2,h3,h4⟩
 ·intro f rr hB hk
  have key:∀ {f0:List Nat},okL sz w.heap (Inow z w (FS++X)) ro.cells (gh d).vals f0→
    ∃ u fo fr f1,(gh d).vals[c]?=some u∧Both f0 fo fr∧okV sz w.heap (Inow z w (FS++X)) t u fo∧
     okL sz w.heap (Inow z w (FS++X)) (ro.cells.set c .dead) (gh d).vals f1∧Both f1 [] fr∧
     skL sz w.heap w.heap (ro.cells.set c .dead) ro.cells (gh d).vals (gh d).vals:=by
   intro f0 hL
   obtain⟨u,fo,fr,g1,g2,g3,g4⟩:=okL_focus hL hc
   obtain⟨f1,p1,p2⟩:=g4 w.heap _ .dead u [] ⟨fun b hb=>⟨hb,rfl⟩,fun b _=>rfl⟩ (by simp only[okV])
   rw[set_self g1] at p1
   have:=skL_set (h':=w.heap) (t':=.dead) (u':=u) hL hc g1 fun _ _ _ _=>⟨fun b _=>rfl,fun h=>by simp[isOwn] at h,by simp only[skV]⟩
   rw[set_self g1] at this
   exact⟨u,fo,fr,f1,g1,g2,g3,p1,p2,this⟩
  unfold okRoot at hk
  split at hk
  ·rename_i hblk
   obtain⟨hreal,hL⟩:=hk
   obtain⟨u,fo,fr,f1,g1,g2,g3,g4,g5,g6⟩:=key hL
   refine⟨f1,fo++X,⟨fo,u,rfl,g1,g3⟩,fun b _=>rfl,fun b _ _=>rfl,fun x=>.inl ?_,fun hI=>?_,⟨.inl ⟨rfl,g6⟩⟩⟩
   ·have:=g2 x;have:=g5 x;simp only[List.count_append,List.count_nil] at *;omega
   ·unfold okRoot
    rw[hblk]
    exact⟨hreal,okL_agree ⟨fun b hb=>⟨hI b hb,rfl⟩,fun b _=>rfl⟩ g4⟩
  ·rename_i b hblk
   obtain⟨hreal,fs',arr,rfl,e2,e3,e4,hL⟩:=hk
   obtain⟨u,fo,fr,f1,g1,g2,g3,g4,g5,g6⟩:=key hL
   refine⟨b.b::f1,fo++X,⟨fo,u,rfl,g1,g3⟩,fun b _=>rfl,fun b _ _=>rfl,fun x=>.inl ?_,fun hI=>?_,⟨.inl ⟨rfl,g6⟩⟩⟩
   ·have:=g2 x;have:=g5 x;simp only[List.count_append,List.count_cons,List.count_nil] at *;omega
   ·unfold okRoot
    rw[hblk]
    exact⟨hreal,f1,arr,rfl,e2,e3,e4,okL_agree ⟨fun b hb=>⟨hI b hb,rfl⟩,fun b _=>rfl⟩ g4⟩
theorem set_mid {pre vals post:List Value} {c:Nat} {v:Value} (h:c<vals.length):(pre++vals++post).set (pre.length+c) v=pre++vals.set c v++post:=by
 rw[List.append_assoc,List.append_assoc,List.set_append_right _ _ (by omega),Nat.add_sub_cancel_left,List.set_append_left _ _ h]
theorem HRel.set_top {sz z rt gh w FS X f} {d c b:Nat} {pre post:List Value} {el:TypeId} {fz:Nat×Nat} {ro:Root} {t0 t':T} {v:Value} {tick hv:Nat} (r:HRel sz z rt gh w FS (f++X)) (hl:lk rt d=some ro)
  (hblk:(gh d).blk=some ⟨b,pre,post,el,fz⟩) (hc:ro.cells[c]?=some t0) (hv':okV sz w.heap (Inow z w (FS++(f++X))) t' v f)
  (hh:(hv=ro.hver∧isOwn t'=false)∨hv=nxt tick ro):
  ∃ FS' arr,w.heap[b]?=some (.cells arr el fz)∧pre.length+c<arr.size∧fzFree fz arr.size∧
   HRel sz z (up rt d { ro with cells:=ro.cells.set c t',hver:=hv }) (gset gh d ⟨some ⟨b,pre,post,el,fz⟩,(gh d).vals.set c v⟩) (w.setCell ⟨b,pre.length+c,none⟩ v) FS' X∧
   Keeps ⟨sz,w.heap,Inow z w (FS++(f++X)),rt,gh⟩ ⟨sz,(w.setCell ⟨b,pre.length+c,none⟩ v).heap,Inow z (w.setCell ⟨b,pre.length+c,none⟩ v) (FS'++X),up rt d { ro with cells:=ro.cells.set c t',hver:=hv },gset gh d ⟨some ⟨b,pre,post,el,fz⟩,(gh d).vals.set c v⟩⟩ (Stm tick rt):=by
 obtain⟨fr0,hr0,hsub⟩:=okRts_get r.roots hl
 unfold okRoot at hr0
 rw[hblk] at hr0
 obtain⟨_,fs0,arr,hfs0,e2,e3,e4,hL0⟩:=hr0
 have hbF:b∈FS:=hsub b (by simp[hfs0])
 have hblt:b<w.heap.size:=r.lt b (by simp[hbF])
 have hcs:pre.length+c<arr.size∧c<(gh d).vals.length:=by
  have h1:=okL_length hL0
  have h2:c<ro.cells.length:=by
   rcases Nat.lt_or_ge c ro.cells.length with h | h
   ·exact h
   ·simp[List.getElem?_eq_none h] at hc
  have h3:=congrArg List.length e4
  simp at h3
  omega
 obtain⟨hcs,hcv⟩:=hcs
 have hheap:∀ x,x≠b→(w.setCell ⟨b,pre.length+c,none⟩ v).heap[x]?=w.heap[x]?:=fun x hx=>by
  simp only[World.setCell,Array.getElem?_modify]
  rw[if_neg (Ne.symm hx)]
 have hheapb:(w.setCell ⟨b,pre.length+c,none⟩ v).heap[b]?=some (.cells (arr.setIfInBounds (pre.length+c) v) el fz):=by
  simp[World.setCell,Array.getElem?_modify,e2]
 have hbf:b∉f:=fun hm=>by
  have:=r.uniq b
  have h1:=List.count_pos_iff.2 hbF
  have h2:=List.count_pos_iff.2 hm
  simp only[List.count_append] at this
  omega
 have hbX:b∉X:=fun hm=>by
  have:=r.uniq b
  have h1:=List.count_pos_iff.2 hbF
  have h2:=List.count_pos_iff.2 hm
  simp only[List.count_append] at this
  omega
 have:=r.turn (tick:=tick) (w':=w.setCell ⟨b,pre.length+c,none⟩ v) (g1:=⟨some ⟨b,pre,post,el,fz⟩,(gh d).vals.set c v⟩) (cells':=ro.cells.set c t') (hv:=hv) (Ex:=fun X'=>X'=X)
  hl (by simp[hblk]) rfl rfl rfl (by simp[World.setCell]) ?_
 ·obtain⟨FS',X',rfl,h3,h4⟩:=this
  exact⟨FS',arr,e2,hcs,e3,h3,h4⟩
 ·intro fd rr hB hk
  unfold okRoot at hk
  rw[hblk] at hk
  obtain⟨hreal,fs',arr',rfl,e2',e3',e4',hL⟩:=hk
  rw[e2] at e2'
  simp only[Option.some.injEq,Obj.cells.injEq,and_true] at e2'
  obtain rfl:=e2'
  have huFS:Uniq FS:=fun x=>by have:=r.uniq x;simp only[List.count_append] at this;omega
  have hbrr:b∉rr:=fun hm=>hB.apart huFS (by simp) hm
  have hbfs:b∉fs':=fun hm=>by
   have h1:=hB.uniq_l huFS b
   have h2:=List.count_pos_iff.2 hm
   simp only[List.count_cons_self] at h1
   omega
  obtain⟨u,fo,fr,g1,g2,g3,g4⟩:=okL_focus hL hc
  have hfr:∀ x,x∈fr→x≠b:=fun x hx=>by rintro rfl;exact hbfs ((g2.mem _).2 (.inr hx))
  have hI0:∀ x,Inow z w (FS++(f++X)) x→x≠b:=fun x hx=>by rintro rfl;exact (r.imm hx).2 (by simp[hbF])
  obtain⟨f1,p1,p2⟩:=g4 (w.setCell ⟨b,pre.length+c,none⟩ v).heap (Inow z w (FS++(f++X))) t' v f ⟨fun x hx=>⟨hx,hheap x (hI0 x hx)⟩,fun x hx=>hheap x (hfr x hx)⟩
   (okV_agree ⟨fun x hx=>⟨hx,hheap x (hI0 x hx)⟩,fun x hx=>hheap x (by rintro rfl;exact hbf hx)⟩ hv')
  refine⟨b::f1,X,rfl,fun x hx=>hheap x (by rintro rfl;exact hbrr hx),fun x _ hx=>hheap x (by rintro rfl;exact hx (by simp[hbF])),fun x=>.inl ?_,fun hI=>?_,⟨?_⟩⟩
  ·have h1:=g2 x;have h2:=p2 x;simp only[List.count_append,List.count_cons] at *;omega
  ·unfold okRoot
   refine⟨hreal,f1,arr.setIfInBounds (pre.length+c) v,rfl,hheapb,by simpa[fzFree] using e3,by simp only[Array.toList_setIfInBounds,e4];exact set_mid hcv,?_⟩
   exact okL_agree ⟨fun x hx=>⟨hI x hx,rfl⟩,fun x _=>rfl⟩ p1
  ·rcases hh with⟨h1,h2⟩ | h1
   ·refine .inl ⟨h1,?_⟩
    exact skL_set hL hc g1 fun f2 r2 hB2 _=>⟨fun x hx=>hheap x (by rintro rfl;exact hbfs ((hB2.mem _).2 (.inr hx))),fun h=>by rw[h2] at h;simp at h,skV_of_not h2⟩
   ·exact .inr h1
theorem okL_one {sz h I t u f}:okL sz h I [t] [u] f↔okV sz h I t u f:=by
 simp only[okL]
 constructor
 ·rintro⟨u',us',f1,f2,h1,rfl,h3,rfl,rfl⟩
  simp only[List.cons.injEq,and_true] at h1
  subst h1
  simpa using h3
 ·intro h;exact⟨u,[],f,[],rfl,by simp,h,rfl,rfl⟩
theorem HRel.nested {sz z rt gh w FS X} {d c0 i b o:Nat} {rest:List (Nat×Nat)} {ro:Root} {t0 t1:T} {u0:Value} {cs cs1:List T} {vs0 vs1:List Value} {arr arr':Array Value} {el:TypeId} {fz:Nat×Nat}
  {g:List T→Option (List T)} {tick hv:Nat} {w':World} {Ex:List Nat→Prop}
  (r:HRel sz z rt gh w FS X) (hl:lk rt d=some ro) (hc:ro.cells[c0]?=some t0) (hu0:(gh d).vals[c0]?=some u0) (hd:descend [t0] ((0,i)::rest)=some cs)
  (hloc:loc sz w.heap [t0] [u0] none ((0,i)::rest)=some (cs,vs0,some (b,o))) (harr:w.heap[b]?=some (.cells arr el fz)) (hg:g cs=some cs1) (hlen:cs1.length=cs.length)
  (hgr:graft g [t0] ((0,i)::rest)=some [t1]) (hos:w'.os=w.os) (hou:w'.output=w.output) (hta:w'.tape=w.tape) (hsz:w'.heap.size=w.heap.size)
  (hw:∀ x,x≠b→w'.heap[x]?=w.heap[x]?) (hwb:w'.heap[b]?=some (.cells arr' el fz)) (hs:arr'.size=arr.size) (harr':arr'.toList=arr.toList.take o++vs1++arr.toList.drop (o+cs.length))
  (hvl:vs1.length=cs.length)
  (H:∀ f,okL sz w.heap (Inow z w (FS++X)) cs ((arr.toList.drop o).take cs.length) f→(∀ x,x∈f→x∈FS)→b∈FS→b∉f→
   ∃ f1 X',Ex X'∧(∀ x,(f1++X').count x≤(f++X).count x)∧okL sz w'.heap (Inow z w (FS++X)) cs1 vs1 f1)
  (hh:(hv=ro.hver∧skL sz w'.heap w.heap cs1 cs vs1 ((arr.toList.drop o).take cs.length))∨hv=nxt tick ro):
  ∃ FS' X',Ex X'∧HRel sz z (up rt d { ro with cells:=ro.cells.set c0 t1,hver:=hv }) gh w' FS' X'∧
   Keeps ⟨sz,w.heap,Inow z w (FS++X),rt,gh⟩ ⟨sz,w'.heap,Inow z w' (FS'++X'),up rt d { ro with cells:=ro.cells.set c0 t1,hver:=hv },gh⟩ (Stm tick rt):=by
 have:=r.turn (tick:=tick) (w':=w') (g1:=gh d) (cells':=ro.cells.set c0 t1) (hv:=hv) (Ex:=Ex) hl rfl hos hou hta (by omega) ?_
 ·obtain⟨FS',X',h1,h2,h3⟩:=this
  rw[gset_self] at h2 h3
  exact⟨FS',X',h1,h2,h3⟩
 intro fd rr hB hk
 have huFS:Uniq FS:=fun x=>by have:=r.uniq x;simp only[List.count_append] at this;omega
 have key:∀ {f0:List Nat},okL sz w.heap (Inow z w (FS++X)) ro.cells (gh d).vals f0→(∀ x,f0.count x≤fd.count x)→
   ∃ f1 X',Ex X'∧b∈f0∧(∀ x,(f1++X').count x≤(f0++X).count x)∧okL sz w'.heap (Inow z w (FS++X)) (ro.cells.set c0 t1) (gh d).vals f1∧
    (hv=ro.hver∧skL sz w'.heap w.heap cs1 cs vs1 ((arr.toList.drop o).take cs.length)→skL sz w'.heap w.heap (ro.cells.set c0 t1) ro.cells (gh d).vals (gh d).vals):=by
  intro f0 hL hle
  have hu0':Uniq f0:=fun x=>by have h1:=hle x;have h2:=hB.uniq_l huFS x;omega
  have hf0FS:∀ x,x∈f0→x∈FS:=fun x hx=>(hB.mem x).2 (.inl (List.count_pos_iff.1 (by have h1:=hle x;have:=List.count_pos_iff.2 hx;omega)))
  obtain⟨u,fo,fr,g1,g2,g3,g4⟩:=okL_focus hL hc
  rw[hu0] at g1
  simp only[Option.some.injEq] at g1
  subst g1
  have hufo:=g2.uniq_l hu0'
  obtain⟨b',o',arr0,el',fz',f,R,a1,a2,a3,a4,a5,a6,a7,a8⟩:=path_ok (ad:=none) (by simp) (okL_one.2 g3) hufo hd
  rw[hloc] at a1
  simp only[Option.some.injEq,Prod.mk.injEq] at a1
  obtain⟨_,_,rfl,rfl⟩:=a1
  rw[harr] at a2
  simp only[Option.some.injEq,Obj.cells.injEq] at a2
  obtain⟨rfl,rfl,rfl⟩:=a2
  have hbfo:b∈fo:=(a6.mem b).2 (.inr a5)
  have hbf0:b∈f0:=(g2.mem b).2 (.inl hbfo)
  have hbf:b∉f:=fun hm=>a6.apart hufo hm a5
  have hbfr:b∉fr:=fun hm=>g2.apart hu0' hbfo hm
  have hIb:∀ x,Inow z w (FS++X) x→x≠b:=fun x hx=>by rintro rfl;exact (r.imm hx).2 (by simp[hf0FS _ hbf0])
  obtain⟨f1,X',hEx,hct,hL1⟩:=H f a7 (fun x hx=>hf0FS x ((g2.mem x).2 (.inl ((a6.mem x).2 (.inl hx))))) (hf0FS b hbf0) hbf
  obtain⟨cs2,fs2,p1,p2,p3⟩:=a8 w'.heap (Inow z w (FS++X)) cs1 vs1 f1 arr' g hg (fun x hx=>⟨hx,hw x (hIb x hx)⟩) (fun x _ hxb=>hw x hxb) hwb hs harr' hlen hL1
  rw[hgr] at p1
  simp only[Option.some.injEq] at p1
  subst p1
  obtain⟨f2,q1,q2⟩:=g4 w'.heap (Inow z w (FS++X)) t1 u0 fs2 ⟨fun x hx=>⟨hx,hw x (hIb x hx)⟩,fun x hx=>hw x (by rintro rfl;exact hbfr hx)⟩ (okL_one.1 p2)
  rw[set_self hu0] at q1
  refine⟨f2,X',hEx,hbf0,fun x=>?_,q1,fun hsk=>?_⟩
  ·have h1:=q2 x
   have h2:=p3 x
   have h3:=hct x
   have h4:=g2 x
   have h5:=a6 x
   simp only[List.count_append] at *
   omega
  ·have hps:=path_sk (h':=w'.heap) (ad:=none) (by simp) (okL_one.2 g3) hufo hd hloc harr a4 (fun x _ hxb=>hw x hxb) hwb harr' hvl hg hlen hsk.2 hgr
   simp only[skL] at hps
   obtain⟨tt,_,uu,_,uu2,_,e1,e2,e3,e4,e5,_⟩:=hps
   simp only[List.cons.injEq] at e1 e2 e3
   obtain⟨rfl,_⟩:=e1
   obtain⟨rfl,_⟩:=e2
   obtain⟨rfl,_⟩:=e3
   have:=skL_set (h':=w'.heap) (t':=t1) (u':=u0) hL hc hu0 fun f' r' hB' hv'=>?_
   ·rw[set_self hu0] at this;exact this
   ·have hin:b∈f':=path_in (I:=Inow z w (FS++X)) (path:=(0,i)::rest) (ad:=none) (by simp) (okL_one.2 hv') (hB'.uniq_l hu0') hd hloc
    exact⟨fun x hx=>hw x (by rintro rfl;exact hB'.apart hu0' hin hx),fun _=>rfl,e5⟩
 unfold okRoot at hk
 split at hk
 ·rename_i hblk
  obtain⟨hreal,hL⟩:=hk
  obtain⟨f1,X',hEx,hbf,hct,hL1,hsk⟩:=key hL (fun x=>Nat.le_refl _)
  refine⟨f1,X',hEx,fun x hx=>hw x (by rintro rfl;exact hB.apart huFS hbf hx),fun x _ hx=>hw x (by rintro rfl;exact hx (by simp[(hB.mem x).2 (.inl hbf)])),fun x=>.inl (hct x),fun hI=>?_,⟨?_⟩⟩
  ·unfold okRoot
   rw[hblk]
   exact⟨hreal,okL_agree ⟨fun x hx=>⟨hI x hx,rfl⟩,fun x _=>rfl⟩ hL1⟩
  ·rcases hh with h1 | h1
   ·exact .inl ⟨h1.1,hsk h1⟩
   ·exact .inr h1
 ·rename_i B0 hblk
  obtain⟨b0,pre0,post0,el0,fz0⟩:=B0
  obtain⟨hreal,fs',arr0,rfl,e2,e3,e4,hL⟩:=hk
  obtain⟨f1,X',hEx,hbf,hct,hL1,hsk⟩:=key hL (fun x=>by simp only[List.count_cons];omega)
  have hb0:b≠b0:=by
   rintro rfl
   have h1:=hB.uniq_l huFS b
   have h2:=List.count_pos_iff.2 hbf
   simp only[List.count_cons_self] at h1
   omega
  refine⟨b0::f1,X',hEx,fun x hx=>hw x (by rintro rfl;exact hB.apart huFS (by simp[hbf]) hx),fun x _ hx=>hw x (by rintro rfl;exact hx (by simp[(hB.mem x).2 (.inl (by simp[hbf]))])),fun x=>.inl ?_,fun hI=>?_,⟨?_⟩⟩
  ·have:=hct x
   simp only[List.count_append,List.count_cons] at *
   omega
  ·unfold okRoot
   rw[hblk]
   exact⟨hreal,f1,arr0,rfl,by rw[hw b0 (Ne.symm hb0)];exact e2,e3,e4,okL_agree ⟨fun x hx=>⟨hI x hx,rfl⟩,fun x _=>rfl⟩ hL1⟩
  ·rcases hh with h1 | h1
   ·exact .inl ⟨h1.1,hsk h1⟩
   ·exact .inr h1
theorem run_cell {α:Type} {rt:List (Nat×Root)} {hh d v c} {k:T→Rd α} {b:α} (h:(Rd.cell hh d v c k).run rt=some b):
  ∃ r t,lk rt d=some r∧r.at_ hh=v∧r.cells[c]?=some t∧(k t).run rt=some b:=by
 simp only[Rd.run] at h
 split at h
 ·rename_i r hr
  split at h
  ·rename_i hv
   split at h
   ·rename_i t ht;exact⟨r,t,hr,hv,ht,h⟩
   ·simp at h
  ·simp at h
 ·simp at h
theorem run_root {α:Type} {rt:List (Nat×Root)} {hh d v} {k:Root→Rd α} {b:α} (h:(Rd.root hh d v k).run rt=some b):
  ∃ r,lk rt d=some r∧r.at_ hh=v∧(k r).run rt=some b:=by
 simp only[Rd.run] at h
 split at h
 ·rename_i r hr
  split at h
  ·rename_i hv;exact⟨r,hr,hv,h⟩
  ·simp at h
 ·simp at h
theorem run_stamp {α:Type} {rt:List (Nat×Root)} {hh d v} {k:Nat→Rd α} {b:α} (h:(Rd.stamp hh d v k).run rt=some b):
  ∃ r,lk rt d=some r∧r.at_ hh=v∧(k r.hver).run rt=some b:=by
 simp only[Rd.run] at h
 split at h
 ·rename_i r hr
  split at h
  ·rename_i hv;exact⟨r,hr,hv,h⟩
  ·simp at h
 ·simp at h
theorem run_bind {α β:Type} {rt:List (Nat×Root)}:∀ {m:Rd α} {k:α→Rd β} {b:β},(m.bind k).run rt=some b→∃ a,m.run rt=some a∧(k a).run rt=some b
 | .ret a,k,b,h=>⟨a,rfl,h⟩
 | .fail,k,b,h=>by simp[Rd.bind,Rd.run] at h
 | .cell hh d v c f,k,b,h=>by
  simp only[Rd.bind] at h
  obtain⟨r,t,h1,h2,h3,h4⟩:=run_cell h
  obtain⟨a,h5,h6⟩:=run_bind h4
  exact⟨a,by simp only[Rd.run,h1,h2,h3,if_true,h5],h6⟩
 | .root hh d v f,k,b,h=>by
  simp only[Rd.bind] at h
  obtain⟨r,h1,h2,h4⟩:=run_root h
  obtain⟨a,h5,h6⟩:=run_bind h4
  exact⟨a,by simp only[Rd.run,h1,h2,if_true,h5],h6⟩
 | .stamp hh d v f,k,b,h=>by
  simp only[Rd.bind] at h
  obtain⟨r,h1,h2,h4⟩:=run_stamp h
  obtain⟨a,h5,h6⟩:=run_bind h4
  exact⟨a,by simp only[Rd.run,h1,h2,if_true,h5],h6⟩
theorem run_of {α:Type} {rt:List (Nat×Root)} {o:Option α} {b:α} (h:(Rd.of o).run rt=some b):o=some b:=by
 cases o<;>simp_all [Rd.of,Rd.run]
theorem HRel.locate {sz z rt gh w FS X} {d c0 i:Nat} {rest:List (Nat×Nat)} {ro:Root} {t0:T} {cs:List T} (r:HRel sz z rt gh w FS X) (hl:lk rt d=some ro)
  (hc:ro.cells[c0]?=some t0) (hd:descend [t0] ((0,i)::rest)=some cs):
  ∃ u0 b o arr el fz f,(gh d).vals[c0]?=some u0∧loc sz w.heap [t0] [u0] none ((0,i)::rest)=some (cs,(arr.toList.drop o).take cs.length,some (b,o))∧
   w.heap[b]?=some (.cells arr el fz)∧fzFree fz arr.size∧o+cs.length≤arr.size∧b∈FS∧b∉f∧okL sz w.heap (Inow z w (FS++X)) cs ((arr.toList.drop o).take cs.length) f∧(∀ x,x∈f→x∈FS)∧
   (∀ ad,loc sz w.heap ro.cells (gh d).vals ad ((c0,i)::rest)=some (cs,(arr.toList.drop o).take cs.length,some (b,o))):=by
 obtain⟨fr0,hr0,hsub⟩:=okRts_get r.roots hl
 obtain⟨frr,rr,q1,q2,_⟩:=okRts_up (d:=d) r.srt r.roots
 have huFS:Uniq FS:=fun x=>by have:=r.uniq x;simp only[List.count_append] at this;omega
 have hk:=q2 ro hl
 have hur:=q1.uniq_l huFS
 have hin:∀ x,x∈frr→x∈FS:=fun x hx=>(q1.mem x).2 (.inl hx)
 have key:∀ {f0:List Nat},okL sz w.heap (Inow z w (FS++X)) ro.cells (gh d).vals f0→Uniq f0→(∀ x,x∈f0→x∈FS)→∃ u0 b o arr el fz f,(gh d).vals[c0]?=some u0∧loc sz w.heap [t0] [u0] none ((0,i)::rest)=some (cs,(arr.toList.drop o).take cs.length,some (b,o))∧
   w.heap[b]?=some (.cells arr el fz)∧fzFree fz arr.size∧o+cs.length≤arr.size∧b∈FS∧b∉f∧okL sz w.heap (Inow z w (FS++X)) cs ((arr.toList.drop o).take cs.length) f∧(∀ x,x∈f→x∈FS)∧
   (∀ ad,loc sz w.heap ro.cells (gh d).vals ad ((c0,i)::rest)=some (cs,(arr.toList.drop o).take cs.length,some (b,o))):=by
  intro f0 hL hu hs
  obtain⟨u,fo,fr,g1,g2,g3,g4⟩:=okL_focus hL hc
  obtain⟨b,o,arr,el,fz,f,R,a1,a2,a3,a4,a5,a6,a7,a8⟩:=path_ok (ad:=none) (by simp) (okL_one.2 g3) (g2.uniq_l hu) hd
  have hbf:b∉f:=fun hm=>a6.apart (g2.uniq_l hu) hm a5
  exact⟨u,b,o,arr,el,fz,f,g1,a1,a2,a3,a4,hs b ((g2.mem b).2 (.inl ((a6.mem b).2 (.inr a5)))),hbf,a7,fun x hx=>hs x ((g2.mem x).2 (.inl ((a6.mem x).2 (.inl hx)))),
   fun ad=>by rw[loc_head (ad':=none) hc g1];exact a1⟩
 unfold okRoot at hk
 split at hk
 ·exact key hk.2 hur hin
 ·obtain⟨_,fs',arr,rfl,_,_,_,hL⟩:=hk
  exact key hL (fun x=>by have:=hur x;simp only[List.count_cons] at this;omega) (fun x hx=>hin x (by simp[hx]))
theorem HRel.rootCells {sz z rt gh w FS X} {d:Nat} {ro:Root} (r:HRel sz z rt gh w FS X) (hl:lk rt d=some ro):
  ∃ f,okL sz w.heap (Inow z w (FS++X)) ro.cells (gh d).vals f∧(∀ x,x∈f→x∈FS):=by
 obtain⟨f,hk,hs⟩:=okRts_get r.roots hl
 unfold okRoot at hk
 split at hk
 ·exact⟨f,hk.2,hs⟩
 ·obtain⟨_,fs',arr,rfl,_,_,_,hL⟩:=hk
  exact⟨fs',hL,fun x hx=>hs x (by simp[hx])⟩
theorem HRel.content {sz z rt gh w FS X} {d ver c n:Nat} {path:List (Nat×Nat)} {u:Value} {e:TypeId} {es:List (List T)} (r:HRel sz z rt gh w FS X)
  (hk:okRef ⟨sz,w.heap,Inow z w (FS++X),rt,gh⟩ d ver path c n u) (h:(content d ver path c n).run rt=some (e,es)):
  ∃ f,okV sz w.heap (Inow z w (FS++X)) (.own e es) u f∧es.length=n∧(∀ x,x∈f→x∈FS):=by
 unfold TM.content at h
 obtain⟨t,h1,h2⟩:=run_bind h
 cases t with
 | own e' es'=>
  simp only at h2
  split at h2
  ·rename_i hn
   simp only[Rd.run,Option.some.injEq,Prod.mk.injEq] at h2
   obtain⟨rfl,rfl⟩:=h2
   cases path with
   | nil=>
    simp only[rdPlace] at h1
    obtain⟨ro,t,g1,g2,g3,g4⟩:=run_cell h1
    simp only[Rd.run,Option.some.injEq] at g4
    subst g4
    obtain⟨f,hL,hs⟩:=r.rootCells g1
    obtain⟨u',fo,fr,q1,q2,q3,_⟩:=okL_focus hL g3
    have:=hk ro g1 g2 ro.cells _ _ rfl e' es' g3 hn
    rw[q1] at this
    simp only[Option.some.injEq] at this
    subst this
    exact⟨fo,q3,hn,fun x hx=>hs x ((q2.mem x).2 (.inl hx))⟩
   | cons p rest=>
    obtain⟨c0,i⟩:=p
    simp only[rdPlace] at h1
    obtain⟨ro,t,g1,g2,g3,g4⟩:=run_cell h1
    split at g4
    ·rename_i cs hd
     split at g4
     ·rename_i t' ht'
      simp only[Rd.run,Option.some.injEq] at g4
      subst g4
      obtain⟨u0,b,o,arr,el,fz,f,m1,m2,m3,m4,m5,m6,_,m7,m8,m9⟩:=r.locate g1 g3 hd
      obtain⟨u',fo,fr,q1,q2,q3,_⟩:=okL_focus m7 ht'
      have:=hk ro g1 g2 cs _ _ (m9 _) e' es' ht' hn
      rw[q1] at this
      simp only[Option.some.injEq] at this
      subst this
      exact⟨fo,q3,hn,fun x hx=>m8 x ((q2.mem x).2 (.inl hx))⟩
     ·simp[Rd.run] at g4
    ·simp[Rd.run] at g4
  ·simp[Rd.run] at h2
 | _=>simp[Rd.run] at h2
theorem HRel.take {sz z rt gh w FS X} {d ver c n tick:Nat} {path:List (Nat×Nat)} {u:Value} {e:TypeId} {es:List (List T)} {s:CSet} (r:HRel sz z rt gh w FS X)
  (hk:okRef ⟨sz,w.heap,Inow z w (FS++X),rt,gh⟩ d ver path c n u) (h:(takeRef d ver path c n).run rt=some ((e,es),s)):
  s.hdr=false∧s.d=d∧es.length=n∧∃ FS' f,okV sz w.heap (Inow z w (FS++X)) (.own e es) u f∧HRel sz z (setCell tick rt s) gh w FS' (f++X)∧
   Keeps ⟨sz,w.heap,Inow z w (FS++X),rt,gh⟩ ⟨sz,w.heap,Inow z w (FS'++(f++X)),setCell tick rt s,gh⟩ (Stm tick rt):=by
 cases path with
 | nil=>
  simp only[takeRef] at h
  obtain⟨ro,t,g1,g2,g3,g4⟩:=run_cell h
  cases t with
  | own e' es'=>
   simp only at g4
   split at g4
   ·rename_i hn
    simp only[Rd.run,Option.some.injEq,Prod.mk.injEq] at g4
    obtain⟨⟨rfl,rfl⟩,rfl⟩:=g4
    obtain⟨FS',f,u',q1,q2,q3,q4⟩:=r.take_top tick g1 g3
    have:=hk ro g1 g2 ro.cells _ _ rfl e' es' g3 hn
    rw[q1] at this
    simp only[Option.some.injEq] at this
    subst this
    refine⟨rfl,rfl,hn,FS',f,q2,?_,?_⟩
    ·simp only[setCell,g1];exact q3
    ·simp only[setCell,g1];exact q4
   ·simp[Rd.run] at g4
  | _=>simp[Rd.run] at g4
 | cons p rest=>
  obtain⟨c0,i⟩:=p
  simp only[takeRef] at h
  obtain⟨ro,t,g1,g2,g3,g4⟩:=run_cell h
  split at g4
  ·rename_i cs t' hd hgr
   split at g4
   ·rename_i e' es' ht'
    split at g4
    ·rename_i hn
     simp only[Rd.run,Option.some.injEq,Prod.mk.injEq] at g4
     obtain⟨⟨rfl,rfl⟩,rfl⟩:=g4
     obtain⟨u0,b,o,arr,el,fz,f0,m1,m2,m3,m4,m5,m6,_,m7,m8,m9⟩:=r.locate g1 g3 hd
     have hu:((arr.toList.drop o).take cs.length)[c]?=some u:=hk ro g1 g2 cs _ _ (m9 _) e' es' ht' hn
     have:=r.nested (tick:=tick) (hv:=ro.hver) (w':=w) (g:=fun cs=>some (cs.set c .dead)) (cs1:=cs.set c .dead) (t1:=t') (arr':=arr) (vs1:=(arr.toList.drop o).take cs.length)
      (Ex:=fun X'=>∃ f,X'=f++X∧okV sz w.heap (Inow z w (FS++X)) (.own e' es') u f)
      g1 g3 m1 hd m2 m3 rfl (by simp) hgr rfl rfl rfl rfl (fun x _=>rfl) m3 rfl ?_ (by simp;omega) ?_ ?_
     ·obtain⟨FS',X',⟨f,rfl,k1⟩,k2,k3⟩:=this
      refine⟨rfl,rfl,hn,FS',f,k1,?_,?_⟩
      ·simp only[setCell,g1];exact k2
      ·simp only[setCell,g1];exact k3
     ·rw[List.append_assoc,←List.drop_drop,List.take_append_drop,List.take_append_drop]
     ·intro f hL _ _ _
      obtain⟨u',fo,fr,q1,q2,q3,q4⟩:=okL_focus hL ht'
      rw[hu] at q1
      simp only[Option.some.injEq] at q1
      subst q1
      obtain⟨f1,p1,p2⟩:=q4 w.heap _ .dead u [] ⟨fun b hb=>⟨hb,rfl⟩,fun b _=>rfl⟩ (by simp only[okV])
      rw[set_self hu] at p1
      refine⟨f1,fo++X,⟨fo,rfl,q3⟩,fun x=>?_,p1⟩
      have:=p2 x;have:=q2 x
      simp only[List.count_append,List.count_nil] at *
      omega
     ·refine .inl ⟨rfl,?_⟩
      have:=skL_set (h':=w.heap) (t':=.dead) (u':=u) m7 ht' hu fun _ _ _ _=>⟨fun b _=>rfl,fun h=>by simp[isOwn] at h,by simp only[skV]⟩
      rw[set_self hu] at this
      exact this
    ·simp[Rd.run] at g4
   ·simp[Rd.run] at g4
  ·simp[Rd.run] at g4
mutual
theorem skV_trans {sz h3 h2 h1}:∀ {t3 t2 t1 u},skV sz h3 h2 t3 t2 u→skV sz h2 h1 t2 t1 u→skV sz h3 h1 t3 t1 u
 | .own e es3,t2,t1,u,a,b=>by
  simp only[skV] at a
  obtain⟨es2,rfl,l2,a⟩:=a
  simp only[skV] at b ⊢
  obtain⟨es1,rfl,l1,b⟩:=b
  refine⟨es1,rfl,by omega,?_⟩
  rcases a with rfl | ⟨b3,o3,n3,cap3,arr3,el3,fz3,arr2,el2,fz2,rfl,m3,m2,a⟩
  ·exact .inl rfl
  ·rcases b with rfl | ⟨b2,o2,n2,cap2,arr2',el2',fz2',arr1,el1,fz1,hu,m2',m1,b⟩
   ·have:es3=[]:=by cases es3<;>simp_all
    exact .inl this
   ·simp only[Value.slice.injEq,Option.some.injEq,Addr.mk.injEq] at hu
    obtain⟨⟨rfl,rfl,_⟩,rfl,rfl⟩:=hu
    rw[m2] at m2'
    simp only[Option.some.injEq,Obj.cells.injEq] at m2'
    obtain⟨rfl,rfl,rfl⟩:=m2'
    exact .inr ⟨b3,o3,n3,cap3,arr3,el3,fz3,arr1,el1,fz1,rfl,m3,m1,skEs_trans a b⟩
 | .v _,_,_,_,_,_=>by simp only[skV]
 | .agg _,_,_,_,_,_=>by simp only[skV]
 | .tup _,_,_,_,_,_=>by simp only[skV]
 | .sl _ _,_,_,_,_,_=>by simp only[skV]
 | .ipt _,_,_,_,_,_=>by simp only[skV]
 | .clo _ _,_,_,_,_,_=>by simp only[skV]
 | .dead,_,_,_,_,_=>by simp only[skV]
 | .hdr n,_,_,_,_,_=>by simp only[skV]
 | .obx _,_,_,_,_,_=>by simp only[skV]
 | .ref ..,_,_,_,_,_=>by simp only[skV]
 | .ptr ..,_,_,_,_,_=>by simp only[skV]
 | .bx ..,_,_,_,_,_=>by simp only[skV]
theorem skL_trans {sz h3 h2 h1}:∀ {c3 c2 c1 v3 v2 v1},skL sz h3 h2 c3 c2 v3 v2→skL sz h2 h1 c2 c1 v2 v1→skL sz h3 h1 c3 c1 v3 v1
 | [],_,_,_,_,_,_,_=>by simp only[skL]
 | t3::c3,c2,c1,v3,v2,v1,a,b=>by
  simp only[skL] at a
  obtain⟨t2,c2',u3,v3',u2,v2',rfl,rfl,rfl,a1,a2,a3⟩:=a
  simp only[skL] at b ⊢
  obtain⟨t1,c1',u2',v2'',u1,v1',rfl,e2,rfl,b1,b2,b3⟩:=b
  simp only[List.cons.injEq] at e2
  obtain⟨rfl,rfl⟩:=e2
  have hown:isOwn t3=true→isOwn t2=true:=fun h=>by
   cases t3<;>simp[isOwn] at h
   simp only[skV] at a2
   obtain⟨es2,rfl,_⟩:=a2
   rfl
  refine⟨t1,c1',u3,v3',u1,v1',rfl,rfl,rfl,fun h=>by rw[a1 h,b1 (hown h)],?_,skL_trans a3 b3⟩
  by_cases h:isOwn t3=true
  ·rw[←b1 (hown h)]
   rw[←b1 (hown h)] at b2
   exact skV_trans a2 b2
  ·cases t3<;>first | (simp[isOwn] at h;done) | simp only[skV]
theorem skEs_trans {sz h3 h2 h1} {s:Nat}:∀ {c3 c2 c1 v3 v2 v1},skEs sz h3 h2 s c3 c2 v3 v2→skEs sz h2 h1 s c2 c1 v2 v1→skEs sz h3 h1 s c3 c1 v3 v1
 | [],_,_,_,_,_,_,_=>by simp only[skEs]
 | t3::c3,c2,c1,v3,v2,v1,a,b=>by
  simp only[skEs] at a
  obtain⟨t2,c2',rfl,a2,a3⟩:=a
  simp only[skEs] at b ⊢
  obtain⟨t1,c1',rfl,b2,b3⟩:=b
  exact⟨t1,c1',rfl,skL_trans a2 b2,skEs_trans a3 b3⟩
end
theorem Keeps.trans {x y z:Cx} {S S':Nat→Nat→Prop} (a:Keeps x y S) (b:Keeps y z S') (hS:∀ d s,S d s→S' d s):Keeps x z S:=by
 refine⟨b.sz.trans a.sz,fun k hk=>?_,fun d s r' hs h1 h2=>?_,fun d s r' hs h1 h2=>?_⟩
 ·obtain⟨h1,h2⟩:=a.old k hk
  obtain⟨h3,h4⟩:=b.old k h1
  exact⟨h3,h4.trans h2⟩
 ·obtain⟨r,g1,g2,g3,g4⟩:=b.hdr d s r' (hS d s hs) h1 h2
  obtain⟨r2,k1,k2,k3,k4⟩:=a.hdr d s r hs g1 g2
  rw[a.sz] at g4
  exact⟨r2,k1,k2,g3.trans k3,skL_trans g4 k4⟩
 ·obtain⟨r,g1,g2,g3⟩:=b.top d s r' (hS d s hs) h1 h2
  obtain⟨r2,k1,k2,k3⟩:=a.top d s r hs g1 g2
  exact⟨r2,k1,k2,g3.trans k3⟩
theorem Keeps.mono {x y:Cx} {S S':Nat→Nat→Prop} (a:Keeps x y S) (hS:∀ d s,S' d s→S d s):Keeps x y S':=
 ⟨a.sz,a.old,fun d s r' hs=>a.hdr d s r' (hS d s hs),fun d s r' hs=>a.top d s r' (hS d s hs)⟩
theorem HRel.keeps_refl {sz z rt gh w FS X} (r:HRel sz z rt gh w FS X) (S:Nat→Nat→Prop) {I':Nat→Prop} (hI:∀ b,Inow z w (FS++X) b→I' b):
  Keeps ⟨sz,w.heap,Inow z w (FS++X),rt,gh⟩ ⟨sz,w.heap,I',rt,gh⟩ S:=
 ⟨rfl,fun b hb=>⟨hI b hb,rfl⟩,fun _ _ r' _ h1 h2=>⟨r',h1,h2,rfl,skL_self r.roots (fun _ _=>rfl) h1⟩,fun _ _ r' _ h1 h2=>⟨r',h1,h2,rfl⟩⟩
theorem HRel.perm {sz z rt gh w FS X X'} (r:HRel sz z rt gh w FS X) (h:∀ x,X'.count x=X.count x):HRel sz z rt gh w FS X'∧∀ b,Inow z w (FS++X) b↔Inow z w (FS++X') b:=by
 refine⟨r.same fun x=>Nat.le_of_eq (h x),fun b=>?_⟩
 have:b∈FS++X↔b∈FS++X':=by
  rw[←List.count_pos_iff,←List.count_pos_iff]
  have:=h b
  simp only[List.count_append]
  omega
 simp only[Inow,this]
theorem Stm_up {tick rt d ro r1} (hl:lk rt d=some ro) (hv:r1.ver=ro.ver):∀ d' s,Stm tick rt d' s→Stm tick (up rt d r1) d' s:=by
 intro d' s h
 refine⟨h.1,fun e=>?_⟩
 obtain⟨r,h1,h2⟩:=h.2 e
 by_cases hd:d'=d
 ·subst hd
  rw[hl] at h1
  simp only[Option.some.injEq] at h1
  subst h1
  exact⟨r1,lk_up_self _ _ _,by rw[hv];exact h2⟩
 ·exact⟨r,by rw[lk_up_ne _ _ _ _ hd];exact h1,h2⟩
theorem Stm_set {tick rt s}:∀ d' v,Stm tick rt d' v→Stm tick (setCell tick rt s) d' v:=by
 intro d' v h
 unfold setCell
 split
 ·rename_i ro hl
  exact Stm_up (r1:={ ro with cells:=ro.cells.set s.c s.t,hver:=if s.hdr then nxt tick ro else ro.hver }) hl rfl d' v h
 ·exact h
theorem Stm_sets {tick}:∀ {ss rt},∀ d' v,Stm tick rt d' v→Stm tick (setCells tick rt ss) d' v
 | [],rt,d',v,h=>h
 | s::ss,rt,d',v,h=>by
  simp only[setCells]
  exact Stm_sets d' v (Stm_set d' v h)
def Pres (D:List (Nat×Nat)) (rt0 rt:List (Nat×Root)):Prop:=
 ∀ d r0,lk rt0 d=some r0→∃ r,lk rt d=some r∧r.ver=r0.ver∧r.hver=r0.hver∧r.real=r0.real∧∀ c,(d,c)∉D→r.cells[c]?=r0.cells[c]?
theorem Pres.refl (rt:List (Nat×Root)):Pres [] rt rt:=fun _ r0 h=>⟨r0,h,rfl,rfl,rfl,fun _ _=>rfl⟩
theorem Pres.step {D rt0 rt tick} {s:CSet} (p:Pres D rt0 rt) (hs:s.hdr=false):Pres ((s.d,s.c)::D) rt0 (setCell tick rt s):=by
 intro d r0 h
 obtain⟨r,h1,h2,h3,h4,h5⟩:=p d r0 h
 unfold setCell
 cases hl:lk rt s.d with
 | none=>exact⟨r,h1,h2,h3,h4,fun c hc=>h5 c (by simp only[List.mem_cons,not_or] at hc;exact hc.2)⟩
 | some ro=>
  by_cases hd:d=s.d
  ·subst hd
   rw[hl] at h1
   simp only[Option.some.injEq] at h1
   subst h1
   refine⟨_,lk_up_self _ _ _,h2,by simp[hs,h3],h4,fun c hc=>?_⟩
   simp only[List.mem_cons,Prod.mk.injEq,true_and,not_or] at hc
   show (ro.cells.set s.c s.t)[c]?=_
   rw[List.getElem?_set,if_neg (fun e=>hc.1 e.symm)]
   exact h5 c hc.2
  ·exact⟨r,by rw[lk_up_ne _ _ _ _ hd];exact h1,h2,h3,h4,fun c hc=>h5 c (by simp only[List.mem_cons,not_or] at hc;exact hc.2)⟩
theorem Pres.take {D rt0 rt} {d ver path c n x} {s:CSet} (p:Pres D rt0 rt) (h:(takeRef d ver path c n).run rt0=some (x,s)) (hn:(s.d,s.c)∉D):
  (takeRef d ver path c n).run rt=some (x,s):=by
 cases path with
 | nil=>
  simp only[takeRef] at h ⊢
  obtain⟨r0,t,h1,h2,h3,h4⟩:=run_cell h
  obtain⟨r,g1,g2,g3,g4,g5⟩:=p d r0 h1
  have hs:s.d=d∧s.c=c:=by
   cases t<;>simp only[Rd.run] at h4<;>try (simp at h4;done)
   split at h4<;>simp only[Rd.run,Option.some.injEq,Prod.mk.injEq] at h4
   ·obtain⟨_,rfl⟩:=h4;exact⟨rfl,rfl⟩
   ·simp at h4
  rw[hs.1,hs.2] at hn
  simp only[Rd.run,g1]
  have e1:r.at_ true=ver:=by simp only[Root.at_,if_true] at h2 ⊢;rw[g3];exact h2
  rw[if_pos e1,g5 c hn,h3]
  cases t with
  | own e es=>
   simp only at h4 ⊢
   split at h4
   ·rename_i hl
    rw[if_pos hl]
    exact h4
   ·simp[Rd.run] at h4
  | _=>simp[Rd.run] at h4
 | cons q rest=>
  obtain⟨c0,i⟩:=q
  simp only[takeRef] at h ⊢
  obtain⟨r0,t,h1,h2,h3,h4⟩:=run_cell h
  obtain⟨r,g1,g2,g3,g4,g5⟩:=p d r0 h1
  have hs:s.d=d∧s.c=c0:=by
   split at h4
   ·split at h4
    ·split at h4
     ·simp only[Rd.run,Option.some.injEq,Prod.mk.injEq] at h4
      obtain⟨_,rfl⟩:=h4;exact⟨rfl,rfl⟩
     ·simp[Rd.run] at h4
    ·simp[Rd.run] at h4
   ·simp[Rd.run] at h4
  rw[hs.1,hs.2] at hn
  simp only[Rd.run,g1]
  have e1:r.at_ true=ver:=by simp only[Root.at_,if_true] at h2 ⊢;rw[g3];exact h2
  rw[if_pos e1,g5 c0 hn,h3]
  simp only
  split at h4
  ·rename_i cs t' e2 e3
   split at h4
   ·rename_i e es e4
    split at h4
    ·rename_i hl
     first
      | exact h4
      | (simp only[if_pos hl];exact h4)
    ·simp[Rd.run] at h4
   ·simp[Rd.run] at h4
  ·simp[Rd.run] at h4
def places (ss:List CSet):List (Nat×Nat):=ss.map fun s=>(s.d,s.c)
theorem setCells_append {tick}:∀ {a rt b},setCells tick rt (a++b)=setCells tick (setCells tick rt a) b
 | [],rt,b=>rfl
 | s::a,rt,b=>by simp only[List.cons_append,setCells];exact setCells_append
structure Laid (sz:TypeId→Nat) (z:Zn) (tick:Nat) (rt0 rt:List (Nat×Root)) (gh:Nat→G) (w:World) (FS X:List Nat) (D:List (Nat×Nat)) (ss:List CSet) (FS' f:List Nat):Prop where
 rel:HRel sz z (setCells tick rt ss) gh w FS' (f++X)
 keeps:Keeps ⟨sz,w.heap,Inow z w (FS++X),rt,gh⟩ ⟨sz,w.heap,Inow z w (FS'++(f++X)),setCells tick rt ss,gh⟩ (Stm tick rt)
 pres:Pres (places ss++D) rt0 (setCells tick rt ss)
 plain:∀ s,s∈ss→s.hdr=false
theorem inline1_ok {sz z rt0 rt gh w FS X} {tick:Nat} {D:List (Nat×Nat)} {tk:Nat→Bool} {t t':T} {ss:List CSet} {u:Value} (r:HRel sz z rt gh w FS X) (p:Pres D rt0 rt)
  (h:(inline1 tk t).run rt0=some (t',ss)) (hD:∀ s,s∈ss→(s.d,s.c)∉D) (hk:okX0 ⟨sz,w.heap,Inow z w (FS++X),rt,gh⟩ t u):
  ∃ FS' f,Laid sz z tick rt0 rt gh w FS X D ss FS' f∧okV sz w.heap (Inow z w (FS'++(f++X))) t' u f∧oneVal u=true:=by
 have simple:∀ t0,okV sz w.heap (Inow z w (FS++X)) t0 u []→oneVal u=true→(Rd.ret (t0,([]:List CSet))).run rt0=some (t',ss)→
   ∃ FS' f,Laid sz z tick rt0 rt gh w FS X D ss FS' f∧okV sz w.heap (Inow z w (FS'++(f++X))) t' u f∧oneVal u=true:=by
  intro t0 hv ho he
  simp only[Rd.run,Option.some.injEq,Prod.mk.injEq] at he
  obtain⟨rfl,rfl⟩:=he
  exact⟨FS,[],⟨by simpa[setCells] using r,by simpa[setCells] using r.keeps_refl _ (fun b hb=>hb),by simpa[setCells,places] using p,by simp⟩,by simpa using hv,ho⟩
 cases t with
 | ref d ver path c n=>
  simp only[inline1] at h
  obtain⟨ro,g1,g2,g3⟩:=run_root h
  split at g3
  ·obtain⟨⟨a0,cap0,rfl⟩,_⟩:=hk
   exact simple (.hdr n) (by simp[okV]) rfl g3
  split at g3
  ·simp[Rd.run] at g3
  ·obtain⟨⟨⟨e,es⟩,s⟩,g4,g5⟩:=run_bind g3
   simp only[Rd.run,Option.some.injEq,Prod.mk.injEq] at g5
   obtain⟨rfl,rfl⟩:=g5
   obtain⟨k1,k2,k3,FS',f,k4,k5,k6⟩:=r.take (tick:=tick) hk.2 (p.take g4 (hD s (by simp)))
   refine⟨FS',f,⟨by simpa[setCells] using k5,by simpa[setCells] using k6,by simpa[setCells,places] using p.step k1,by simpa using k1⟩,okV_agree ⟨fun b hb=>k6.old b hb,fun b _=>rfl⟩ k4,?_⟩
   simp only[okV] at k4
   rcases k4 with⟨_,_,a,rfl⟩ | ⟨b,o,cap,arr,el,fz,fs',rfl,_⟩<;>rfl
 | v x=>
  simp only[inline1] at h
  split at h
  ·rename_i ho
   simp only[okX0,okV] at hk
   obtain⟨rfl,_⟩:=hk
   exact simple _ (by simp[okV]) ho h
  ·simp[Rd.run] at h
 | sl e es=>
  simp only[inline1] at h
  have hk':=hk
  simp only[okX0,okV] at hk'
  obtain⟨_,a,cap,rfl,_⟩:=hk'
  exact simple _ hk rfl h
 | own e es=>
  cases es with
  | nil=>
   simp only[inline1] at h
   have hk':=hk
   simp only[okX0,okV] at hk'
   rcases hk' with⟨_,_,a,rfl⟩ | ⟨b,o,cap,arr,el,fz,fs',rfl,_⟩
   ·exact simple _ hk rfl h
   ·exact simple _ hk rfl h
  | cons _ _=>simp[inline1,Rd.run] at h
 | ipt cs=>
  simp only[inline1] at h
  have hk':=hk
  simp only[okX0,okV] at hk'
  obtain⟨_,b,o,arr,el,fz,rfl,_⟩:=hk'
  exact simple _ hk rfl h
 | clo f caps=>
  cases caps with
  | nil=>
   simp only[inline1] at h
   have hk':=hk
   simp only[okX0,okV] at hk'
   obtain⟨_,us,rfl,_⟩:=hk'
   exact simple _ hk rfl h
  | cons _ _=>simp[inline1,Rd.run] at h
 | ptr d ver path off=>simp[inline1,Rd.run] at h
 | bx d ver path off=>simp[inline1,Rd.run] at h
 | agg _=>simp[inline1,Rd.run] at h
 | tup _=>simp[inline1,Rd.run] at h
 | dead=>simp[inline1,Rd.run] at h
 | hdr n=>simp[inline1,Rd.run] at h
 | obx _=>simp[inline1,Rd.run] at h
theorem apart_mem {d c}:∀ {ss:List CSet},apartFrom d c ss=true→∀ s,s∈ss→(s.d,s.c)≠(d,c)
 | [],_,s,hs=>by simp at hs
 | s0::ss,h,s,hs=>by
  simp only[apartFrom,Bool.and_eq_true,Bool.not_eq_true',Bool.and_eq_false_iff,beq_eq_false_iff_ne] at h
  rcases List.mem_cons.1 hs with rfl | hs
  ·intro e
   simp only[Prod.mk.injEq] at e
   rcases h.1 with h1 | h1
   ·exact h1 e.1
   ·exact h1 e.2
  ·exact apart_mem h.2 s hs
theorem apartFrom_append {d c}:∀ {a b:List CSet},apartFrom d c (a++b)=(apartFrom d c a&&apartFrom d c b)
 | [],b=>by simp[apartFrom]
 | s::a,b=>by simp only[List.cons_append,apartFrom,apartFrom_append,Bool.and_assoc]
theorem setsApart_append:∀ {a b:List CSet},setsApart (a++b)=true→setsApart a=true∧setsApart b=true∧∀ s,s∈b→(s.d,s.c)∉places a
 | [],b,h=>⟨rfl,h,fun s _=>by simp[places]⟩
 | s0::a,b,h=>by
  simp only[List.cons_append,setsApart,Bool.and_eq_true,apartFrom_append] at h
  obtain⟨h1,h2,h3⟩:=setsApart_append h.2
  refine⟨by simp only[setsApart,Bool.and_eq_true];exact⟨h.1.1,h1⟩,h2,fun s hs hp=>?_⟩
  simp only[places,List.map_cons,List.mem_cons] at hp
  rcases hp with hp | hp
  ·exact apart_mem h.1.2 s hs hp
  ·exact h3 s hs (by simpa[places] using hp)
theorem inlineL_ok {sz z gh w} {tick:Nat} {tk:Nat→Bool} {rt0:List (Nat×Root)}:∀ {ts ts':List T} {ss:List CSet} {us:List Value} {rt FS X D},HRel sz z rt gh w FS X→Pres D rt0 rt→
  (inlineL tk ts).run rt0=some (ts',ss)→setsApart ss=true→(∀ s,s∈ss→(s.d,s.c)∉D)→All2 (okX0 ⟨sz,w.heap,Inow z w (FS++X),rt,gh⟩) ts us→(∀ t,t∈ts→st0 (Stm tick rt) t)→
  ∃ FS' f,Laid sz z tick rt0 rt gh w FS X D ss FS' f∧okL sz w.heap (Inow z w (FS'++(f++X))) ts' us f∧∀ u,u∈us→oneVal u=true
 | [],ts',ss,us,rt,FS,X,D,r,p,h,_,_,hk,_=>by
  simp only[inlineL,Rd.run,Option.some.injEq,Prod.mk.injEq] at h
  obtain⟨rfl,rfl⟩:=h
  simp only[All2] at hk
  subst hk
  exact⟨FS,[],⟨by simpa[setCells] using r,by simpa[setCells] using r.keeps_refl _ (fun b hb=>hb),by simpa[setCells,places] using p,by simp⟩,by simp[okL],by simp⟩
 | t::ts,ts',ss,us,rt,FS,X,D,r,p,h,ha,hD,hk,hst=>by
  simp only[inlineL] at h
  obtain⟨⟨t1,s1⟩,h1,h2⟩:=run_bind h
  obtain⟨⟨ts2,s2⟩,h3,h4⟩:=run_bind h2
  simp only[Rd.run,Option.some.injEq,Prod.mk.injEq] at h4
  obtain⟨rfl,rfl⟩:=h4
  obtain⟨u,us',rfl,k1,k2⟩:=hk
  obtain⟨a1,a2,a3⟩:=setsApart_append ha
  obtain⟨FS1,f1,l1,v1,o1⟩:=inline1_ok (tick:=tick) r p h1 (fun s hs=>hD s (by simp[hs])) k1
  have k2':All2 (okX0 ⟨sz,w.heap,Inow z w (FS1++(f1++X)),setCells tick rt s1,gh⟩) ts us':=k2.imp fun a b ha hr=>l1.keeps.x0 (hst a (by simp[ha])) hr
  obtain⟨FS2,f2,l2,v2,o2⟩:=inlineL_ok (D:=places s1++D) l1.rel l1.pres h3 a2
   (fun s hs hm=>by
    rcases List.mem_append.1 hm with hm | hm
    ·exact a3 s hs hm
    ·exact hD s (by simp[hs]) hm) k2' (fun t ht=>by
    have:=hst t (by simp[ht])
    cases t<;>first | trivial | exact Stm_sets _ _ this)
  obtain⟨rp,hIe⟩:=l2.rel.perm (X':=(f1++f2)++X) (fun x=>by simp only[List.count_append];omega)
  refine⟨FS2,f1++f2,⟨by rw[setCells_append];exact rp,?_,?_,fun s hs=>?_⟩,?_,fun v hv=>?_⟩
  ·rw[setCells_append]
   have:=(l1.keeps.trans l2.keeps (fun d s hs=>Stm_sets d s hs))
   exact⟨this.sz,fun b hb=>⟨(hIe b).1 (this.old b hb).1,(this.old b hb).2⟩,this.hdr,this.top⟩
  ·rw[setCells_append]
   intro d r0 hr0
   obtain⟨r1,g1,g2,g3,g4,g5⟩:=l2.pres d r0 hr0
   refine⟨r1,g1,g2,g3,g4,fun c hc=>g5 c fun hm=>hc ?_⟩
   simp only[places,List.map_append,List.mem_append] at hm ⊢
   rcases hm with hm | hm | hm
   ·exact .inl (.inr hm)
   ·exact .inl (.inl hm)
   ·exact .inr hm
  ·rcases List.mem_append.1 hs with hs | hs
   ·exact l1.plain s hs
   ·exact l2.plain s hs
  ·simp only[okL]
   refine⟨u,us',f1,f2,rfl,rfl,okV_agree ⟨fun b hb=>⟨(hIe b).1 (l2.keeps.old b hb).1,rfl⟩,fun b _=>rfl⟩ v1,okL_agree ⟨fun b hb=>⟨(hIe b).1 hb,rfl⟩,fun b _=>rfl⟩ v2⟩
  ·rcases List.mem_cons.1 hv with rfl | hv
   ·exact o1
   ·exact o2 v hv
theorem up_twice {α:Type}:∀ (l:List (Nat×α)) (d:Nat) (x y:α),up (up l d x) d y=up l d y
 | [],d,x,y=>by simp[up]
 | (k,a)::r,d,x,y=>by
  simp only[up]
  by_cases h:k=d
  ·simp[h,up]
  ·by_cases h2:d<k
   ·simp[h,h2,up]
   ·simp only[if_neg h,if_neg h2,up]
    rw[up_twice r d x y]
theorem setCell_at {tick rt d ro c0 t1} (hl:lk rt d=some ro):setCell tick rt ⟨d,c0,t1,false⟩=up rt d { ro with cells:=ro.cells.set c0 t1 }:=by
 simp[setCell,hl]
theorem takes_ok {sz z gh w} {tick d ver c0 zz:Nat}:∀ {ts ts':List T} {t t':T} {us:List Value} {rt FS X ro},HRel sz z rt gh w FS X→lk rt d=some ro→ro.hver=ver→ro.cells[c0]?=some t→
  takes d ver c0 zz t ts=some (ts',t')→All2 (okX0 ⟨sz,w.heap,Inow z w (FS++X),rt,gh⟩) ts us→(∀ t,t∈ts→st0 (Stm tick rt) t)→
  ∃ FS' f ss,HRel sz z (setCells tick rt ss) gh w FS' (f++X)∧Keeps ⟨sz,w.heap,Inow z w (FS++X),rt,gh⟩ ⟨sz,w.heap,Inow z w (FS'++(f++X)),setCells tick rt ss,gh⟩ (Stm tick rt)∧
   okL sz w.heap (Inow z w (FS'++(f++X))) ts' us f∧(∀ u,u∈us→oneVal u=true)∧
   ((ss=[]∧t'=t∧anyDeep ts=false)∨setCells tick rt ss=setCell tick rt ⟨d,c0,t',false⟩)
 | [],ts',t,t',us,rt,FS,X,ro,r,hl,hv,hc,h,hk,_=>by
  simp only[takes,Option.some.injEq,Prod.mk.injEq] at h
  obtain⟨rfl,rfl⟩:=h
  simp only[All2] at hk
  subst hk
  exact⟨FS,[],[],by simpa[setCells] using r,by simpa[setCells] using r.keeps_refl _ (fun b hb=>hb),by simp[okL],by simp,.inl ⟨rfl,rfl,rfl⟩⟩
 | x::xs,ts',t,t',us,rt,FS,X,ro,r,hl,hv,hc,h,hk,hst=>by
  obtain⟨u,us',rfl,k1,k2⟩:=hk
  cases x with
  | ref d' ver' path c n=>
   cases path with
   | nil=>
    simp only[takes] at h
    split at h
    ·split at h
     ·rename_i res hres
      simp only[Option.some.injEq,Prod.mk.injEq] at h
      obtain⟨rfl,rfl⟩:=h
      obtain⟨⟨a0,cap0,rfl⟩,_⟩:=k1
      obtain⟨FS2,f2,ss2,r2,kp2,v2,o2,a2⟩:=takes_ok r hl hv hc hres k2 (fun t ht=>hst t (by simp[ht]))
      refine⟨FS2,f2,ss2,r2,kp2,?_,fun v hv=>?_,?_⟩
      ·simp only[okL]
       exact⟨_,us',[],f2,rfl,rfl,by simp[okV],v2⟩
      ·rcases List.mem_cons.1 hv with rfl | hv
       ·rfl
       ·exact o2 v hv
      ·rcases a2 with⟨a,b,c⟩ | a2
       ·exact .inl ⟨a,b,by simpa[anyDeep,deep1] using c⟩
       ·exact .inr a2
     ·simp at h
    ·simp at h
   | cons q rest=>
    obtain⟨c0',i⟩:=q
    simp only[takes] at h
    split at h
    ·rename_i heq
     obtain⟨rfl,rfl,rfl⟩:=heq
     split at h
     ·rename_i cs t1 e1 e2
      split at h
      ·rename_i e es e3
       split at h
       ·rename_i hn
        split at h
        ·rename_i res hres
         simp only[Option.some.injEq,Prod.mk.injEq] at h
         obtain⟨rfl,rfl⟩:=h
         have ht:(takeRef d' ver' ((c0',i)::rest) c n).run rt=some ((e,es),⟨d',c0',t1,false⟩):=by
          simp only[takeRef,Rd.run,hl,Root.at_,if_true,hv,hc,e1,e2,e3,if_pos hn]
         obtain⟨_,_,_,FS1,f1,v1,r1,kp1⟩:=r.take (tick:=tick) k1.2 ht
         have hs1:=setCell_at (tick:=tick) (t1:=t1) (c0:=c0') hl
         have hlt:c0' < ro.cells.length:=by
          by_cases hh:c0' < ro.cells.length
          ·exact hh
          ·rw[List.getElem?_eq_none (by omega)] at hc;simp at hc
         have hl1:lk (setCell tick rt ⟨d',c0',t1,false⟩) d'=some { ro with cells:=ro.cells.set c0' t1 }:=by rw[hs1];exact lk_up_self _ _ _
         have k2':All2 (okX0 ⟨sz,w.heap,Inow z w (FS1++(f1++X)),setCell tick rt ⟨d',c0',t1,false⟩,gh⟩) xs us':=k2.imp fun a b ha hr=>kp1.x0 (hst a (by simp[ha])) hr
         obtain⟨FS2,f2,ss2,r2,kp2,v2,o2,a2⟩:=takes_ok (c0:=c0') (ver:=ver') r1 hl1 hv (by simp[hlt]) hres k2' (fun t ht=>by
          have:=hst t (by simp[ht])
          cases t<;>first | trivial | exact Stm_set _ _ this)
         obtain⟨rp,hIe⟩:=r2.perm (X':=(f1++f2)++X) (fun x=>by simp only[List.count_append];omega)
         refine⟨FS2,f1++f2,⟨d',c0',t1,false⟩::ss2,rp,?_,?_,fun v hv=>?_,?_⟩
         ·have:=(kp1.trans kp2 (fun d s hs=>Stm_set d s hs))
          exact⟨this.sz,fun b hb=>⟨(hIe b).1 (this.old b hb).1,(this.old b hb).2⟩,this.hdr,this.top⟩
         ·simp only[okL]
          refine⟨u,us',f1,f2,rfl,rfl,okV_agree ⟨fun b hb=>⟨(hIe b).1 (kp2.old b (kp1.old b hb).1).1,rfl⟩,fun b _=>rfl⟩ v1,okL_agree ⟨fun b hb=>⟨(hIe b).1 hb,rfl⟩,fun b _=>rfl⟩ v2⟩
         ·rcases List.mem_cons.1 hv with rfl | hv
          ·simp only[okV] at v1
           rcases v1 with⟨_,_,a,rfl⟩ | ⟨b,o,cap,arr,el,fz,fs',rfl,_⟩<;>rfl
          ·exact o2 v hv
         ·refine .inr ?_
          show setCells tick (setCell tick rt ⟨d',c0',t1,false⟩) ss2=_
          rcases a2 with⟨rfl,rfl,_⟩ | a2
          ·rfl
          ·rw[a2,setCell_at hl1,hs1,setCell_at hl,up_twice]
           simp only[List.set_set]
        ·simp at h
       ·simp at h
      ·simp at h
     ·simp at h
    ·simp at h
  | v y=>
   simp only[takes] at h
   split at h
   ·rename_i ho
    split at h
    ·rename_i res hres
     simp only[Option.some.injEq,Prod.mk.injEq] at h
     obtain⟨rfl,rfl⟩:=h
     simp only[okX0,okV] at k1
     obtain⟨rfl,_⟩:=k1
     obtain⟨FS2,f2,ss2,r2,kp2,v2,o2,a2⟩:=takes_ok r hl hv hc hres k2 (fun t ht=>hst t (by simp[ht]))
     refine⟨FS2,f2,ss2,r2,kp2,?_,fun v hv=>?_,?_⟩
     ·simp only[okL]
      exact⟨_,us',[],f2,rfl,rfl,by simp[okV],v2⟩
     ·rcases List.mem_cons.1 hv with rfl | hv
      ·exact ho
      ·exact o2 v hv
     ·rcases a2 with⟨a,b,c⟩ | a2
      ·exact .inl ⟨a,b,by simpa[anyDeep,deep1] using c⟩
      ·exact .inr a2
    ·simp at h
   ·simp at h
  | sl e es=>simp[takes] at h
  | own e es=>simp[takes] at h
  | ipt cs=>simp[takes] at h
  | clo f caps=>simp[takes] at h
  | ptr d ver path off=>simp[takes] at h
  | bx d ver path off=>simp[takes] at h
  | agg _=>simp[takes] at h
  | tup _=>simp[takes] at h
  | dead=>simp[takes] at h
  | hdr n=>simp[takes] at h
  | obx _=>simp[takes] at h
theorem deepOf_any:∀ {ts:List T} {p},deepOf ts=some p→anyDeep ts=true
 | [],_,h=>by simp[deepOf] at h
 | t::ts,p,h=>by
  simp only[deepOf] at h
  split at h
  ·rename_i q hq
   simp[anyDeep,hq]
  ·simp[anyDeep,deepOf_any h]
theorem inlineR_ok {sz z gh w} {tick:Nat} {tk:Nat→Bool} {ts ts':List T} {ss:List CSet} {us:List Value} {rt FS X} (r:HRel sz z rt gh w FS X)
  (h:(inlineR tk ts).run rt=some (ts',ss)) (ha:setsApart ss=true) (hk:All2 (okX0 ⟨sz,w.heap,Inow z w (FS++X),rt,gh⟩) ts us) (hst:∀ t,t∈ts→st0 (Stm tick rt) t):
  ∃ FS' f,Laid sz z tick rt rt gh w FS X [] ss FS' f∧okL sz w.heap (Inow z w (FS'++(f++X))) ts' us f∧∀ u,u∈us→oneVal u=true:=by
 unfold inlineR at h
 split at h
 ·rename_i p hp
  obtain⟨d,ver,c0⟩:=p
  obtain⟨ro,g1,g2,g3⟩:=run_root h
  split at g3
  ·simp[Rd.run] at g3
  ·obtain⟨ro',t,g4,g5,g6,g7⟩:=run_cell g3
   split at g7
   ·rename_i res hres
    simp only[Rd.run,Option.some.injEq,Prod.mk.injEq] at g7
    obtain⟨rfl,rfl⟩:=g7
    obtain⟨FS',f,ss,r2,kp,v,o,a⟩:=takes_ok (tick:=tick) r g4 (by simpa[Root.at_] using g5) g6 hres hk hst
    rcases a with⟨_,_,hno⟩ | a
    ·rw[deepOf_any hp] at hno;simp at hno
    ·have e:setCells tick rt [⟨d,c0,res.2,false⟩]=setCells tick rt ss:=by rw[a];rfl
     refine⟨FS',f,⟨by rw[e];exact r2,by rw[e];exact kp,?_,by simp⟩,v,o⟩
     exact (Pres.refl rt).step rfl
   ·simp[Rd.run] at g7
 ·exact inlineL_ok r (Pres.refl rt) h ha (fun s _=>by simp) hk hst
theorem pureRun_sound {α:Type} {P:Program}:∀ {s:Sem α} {a:α},pureRun P s=some a→∀ w,s.run P w=.ok a w
 | .pure b,a,h,w=>by simp only[pureRun,Option.some.injEq] at h;subst h;rfl
 | .program k,a,h,w=>by simp only[pureRun] at h;simp only[Sem.run];exact pureRun_sound h w
 | .mark m k,a,h,w=>by simp only[pureRun] at h;simp only[Sem.run];exact pureRun_sound h w
 | .load ..,_,h,_=>by simp[pureRun] at h
 | .store ..,_,h,_=>by simp[pureRun] at h
 | .new ..,_,h,_=>by simp[pureRun] at h
 | .shape ..,_,h,_=>by simp[pureRun] at h
 | .freeze ..,_,h,_=>by simp[pureRun] at h
 | .frozen ..,_,h,_=>by simp[pureRun] at h
 | .getObj ..,_,h,_=>by simp[pureRun] at h
 | .setObj ..,_,h,_=>by simp[pureRun] at h
 | .choose ..,_,h,_=>by simp[pureRun] at h
 | .sys ..,_,h,_=>by simp[pureRun] at h
 | .halt _,_,h,_=>by simp[pureRun] at h
theorem addr_add (b o k:Nat):(⟨b,o,none⟩:Addr).add k=⟨b,o+k,none⟩:=by
 unfold Addr.add;split
 ·rename_i h;subst h;rfl
 ·rfl
theorem cell_of {w:World} {b o:Nat} {arr:Array Value} {el:TypeId} {fz:Nat×Nat} {v:Value} (h:w.heap[b]?=some (.cells arr el fz)) (hv:arr[o]?=some v):
  w.cell? ⟨b,o,none⟩=some v:=by
 simp[World.cell?,h,hv]
theorem run_loadCells_ok {P:Program} {w:World} {b o n:Nat} {arr:Array Value} {el:TypeId} {fz:Nat×Nat} (h:w.heap[b]?=some (.cells arr el fz)) (hn:o+n≤arr.size):
  (loadCells ⟨b,o,none⟩ n).run P w=.ok ((arr.toList.drop o).take n).toArray w:=by
 have hl:((arr.toList.drop o).take n).length=n:=by simp;omega
 have:=run_loadCells_list (P:=P) (w:=w) ⟨b,o,none⟩ ((arr.toList.drop o).take n) (fun j v hv=>by
  rw[addr_add]
  refine cell_of h ?_
  rw[List.getElem?_take] at hv
  split at hv
  ·rw[List.getElem?_drop] at hv
   simpa using hv
  ·simp at hv)
 rw[hl] at this
 exact this
def stores:World→Nat→Nat→List Value→World
 | w,_,_,[]=>w
 | w,b,o,v::vs=>stores (w.setCell ⟨b,o,none⟩ v) b (o+1) vs
theorem heap_setCell_ne {w:World} {b o x:Nat} {v:Value} (hx:x≠b):(w.setCell ⟨b,o,none⟩ v).heap[x]?=w.heap[x]?:=by
 simp only[World.setCell,Array.getElem?_modify]
 rw[if_neg (Ne.symm hx)]
theorem heap_setCell_eq {w:World} {b o:Nat} {v:Value} {arr:Array Value} {el:TypeId} {fz:Nat×Nat} (h:w.heap[b]?=some (.cells arr el fz)):
  (w.setCell ⟨b,o,none⟩ v).heap[b]?=some (.cells (arr.setIfInBounds o v) el fz):=by
 simp[World.setCell,Array.getElem?_modify,h]
theorem run_store_ok {P:Program} {w:World} {b o:Nat} {v:Value} {arr:Array Value} {el:TypeId} {fz:Nat×Nat} (h:w.heap[b]?=some (.cells arr el fz)) (ho:o<arr.size)
  (hf:fzFree fz arr.size) (hv:oneVal v=true):(store ⟨b,o,none⟩ v).run P w=.ok () (w.setCell ⟨b,o,none⟩ v):=by
 have hc:w.cell? ⟨b,o,none⟩=some arr[o]:=cell_of h (by simp[ho])
 have hfr:w.frozen? ⟨b,o,none⟩=false:=by
  simp only[World.frozen?,h]
  have:=hf o ho
  simp only[Bool.and_eq_false_iff,decide_eq_false_iff_not]
  omega
 cases v<;>first
  | (simp[oneVal] at hv;done)
  | simp[store,Sem.run,hc,hfr]
theorem run_storeCells_ok {P:Program} {b o:Nat} {el:TypeId} {fz:Nat×Nat}:∀ {vs:List Value} {i:Nat} {w:World} {arr:Array Value},w.heap[b]?=some (.cells arr el fz)→
  o+i+vs.length≤arr.size→fzFree fz arr.size→(∀ v,v∈vs→oneVal v=true)→(storeCells ⟨b,o,none⟩ vs i).run P w=.ok () (stores w b (o+i) vs)
 | [],i,w,arr,_,_,_,_=>rfl
 | v::vs,i,w,arr,h,hn,hf,hv=>by
  simp only[List.length_cons] at hn
  simp only[storeCells,Sem.run_bind,addr_add]
  rw[run_store_ok h (by omega) hf (hv v (by simp))]
  simp only[Result.andThen_ok,stores]
  rw[run_storeCells_ok (heap_setCell_eq h) (by simp;omega) (by simpa[fzFree] using hf) (fun u hu=>hv u (by simp[hu]))]
  rfl
theorem stores_ne {b x:Nat} (hx:x≠b):∀ {vs:List Value} {w:World} {o:Nat},(stores w b o vs).heap[x]?=w.heap[x]?
 | [],w,o=>rfl
 | v::vs,w,o=>by simp only[stores];rw[stores_ne hx,heap_setCell_ne hx]
theorem stores_eq {b:Nat} {el:TypeId} {fz:Nat×Nat}:∀ {vs:List Value} {w:World} {o:Nat} {arr:Array Value},w.heap[b]?=some (.cells arr el fz)→o+vs.length≤arr.size→
  ∃ arr',(stores w b o vs).heap[b]?=some (.cells arr' el fz)∧arr'.size=arr.size∧arr'.toList=arr.toList.take o++vs++arr.toList.drop (o+vs.length)
 | [],w,o,arr,h,hn=>⟨arr,h,rfl,by simp⟩
 | v::vs,w,o,arr,h,hn=>by
  simp only[List.length_cons] at hn
  obtain⟨arr',h1,h2,h3⟩:=stores_eq (vs:=vs) (o:=o+1) (heap_setCell_eq (o:=o) (v:=v) h) (by simp;omega)
  refine⟨arr',h1,by simpa using h2,?_⟩
  rw[h3]
  have hol:o<arr.toList.length:=by simp;omega
  have e1:(arr.setIfInBounds o v).toList.take (o+1)=arr.toList.take o++[v]:=by
   rw[Array.toList_setIfInBounds,List.set_eq_take_append_cons_drop,if_pos hol,List.take_append]
   have:(arr.toList.take o).length=o:=by rw[List.length_take];omega
   rw[this,List.take_of_length_le (by omega)]
   simp
  have e2:(arr.setIfInBounds o v).toList.drop (o+1+vs.length)=arr.toList.drop (o+(vs.length+1)):=by
   rw[Array.toList_setIfInBounds,List.drop_set_of_lt (by omega)]
   congr 1;omega
  rw[e1,e2]
  simp
theorem stores_same {b:Nat}:∀ {vs:List Value} {w:World} {o:Nat},(stores w b o vs).os=w.os∧(stores w b o vs).output=w.output∧(stores w b o vs).tape=w.tape∧(stores w b o vs).heap.size=w.heap.size
 | [],w,o=>⟨rfl,rfl,rfl,rfl⟩
 | v::vs,w,o=>by
  obtain⟨h1,h2,h3,h4⟩:=stores_same (b:=b) (vs:=vs) (w:=w.setCell ⟨b,o,none⟩ v) (o:=o+1)
  exact⟨h1,h2,h3,by simp only[stores];rw[h4];simp[World.setCell]⟩
structure TOk (E:Env) (t:TypeId) (i:TInfo):Prop where
 info:∃ inf z,E.P.info? t=some inf∧inf.size=i.size∧inf.bytes=i.bytes∧inf.zero=some z∧z.cells.size=i.size∧i.zero.length=i.size∧
  (∀ h I,okL (szOf E) h I i.zero z.cells.toList [])∧(∀ u,u∈z.cells.toList→oneVal u=true)
 agg:∃ desc,E.P.underlying t=some desc∧i.agg=(match desc with | .struct _ | .array _ _=>true | _=>false)
 int:∃ desc,E.P.underlying t=some desc∧i.int=(match desc with | .int _=>true | _=>false)
 elem:∀ e,i.elem=some e→E.P.underlying t=some (.slice e)
 elemInfo:∀ e,i.elem=some e→∃ ie,E.ti e=some ie
 fields:∀ (k off s:Nat),i.fields[k]?=some (off,s)→∃ (fs:Array Field) (f:Field) (inf:TypeInfo),E.P.underlying t=some (.struct fs)∧fs[k]?=some f∧f.offset=off∧E.P.info? f.type=some inf∧inf.size=s
 places:i.fields≠[]→∃ fs:Array Field,E.P.underlying t=some (.struct fs)∧∀ w,(fs.mapM fun f=>do pure (f.offset,←sizeOf f.type):Sem (Array (Nat×Nat))).run E.P w=.ok i.fields.toArray w
 ftys:∀ (k ft:Nat),i.ftys[k]?=some ft→∀ (fs:Array Field) (f:Field),E.P.underlying t=some (.struct fs)→fs[k]?=some f→f.type=ft
def TiOk (E:Env):Prop:=∀ t i,E.ti t=some i→TOk E t i
theorem run_typeInfo {P:Program} {w:World} {t:TypeId} {i:TypeInfo} (h:P.info? t=some i):(typeInfo t).run P w=.ok i w:=by
 simp[typeInfo,h]
theorem run_underlying {P:Program} {w:World} {t:TypeId} {d:TypeDesc} (h:P.underlying t=some d):(underlying t).run P w=.ok d w:=by
 simp[underlying,h]
theorem TOk.size {E:Env} {t:TypeId} {i:TInfo} (h:TOk E t i) (w:World):(sizeOf t).run E.P w=.ok i.size w:=by
 obtain⟨inf,z,h1,h2,_⟩:=h.info
 simp[sizeOf,run_typeInfo h1,h2]
theorem TOk.isAgg {E:Env} {t:TypeId} {i:TInfo} (h:TOk E t i) (w:World):(Go.isAgg t).run E.P w=.ok i.agg w:=by
 obtain⟨d,h1,h2⟩:=h.agg
 simp only[Go.isAgg,Sem.run_bind,run_underlying h1,Result.andThen_ok,h2]
 cases d<;>rfl
theorem TOk.zero {E:Env} {t:TypeId} {i:TInfo} (h:TOk E t i):∃ z,(∀ w,(zeroValue t).run E.P w=.ok z w)∧z.cells.size=i.size∧
  (∀ hh I,okL (szOf E) hh I i.zero z.cells.toList [])∧(∀ u,u∈z.cells.toList→oneVal u=true):=by
 obtain⟨inf,z,h1,h2,h3,h4,h5,h6,h7,h8⟩:=h.info
 exact⟨z,fun w=>by simp[zeroValue,run_typeInfo h1,h4],h5,h7,h8⟩
structure FRel (x:Cx) (S:Nat→Nat→Prop) (n:Nat) (fr:List (Nat×T)) (a:Act):Prop where
 size:a.tmps.size=n
 defers:a.defers=[]
 tmp:∀ d t,lk fr d=some t→∃ u,a.tmps[d]?=some u∧okX x t u∧stX S t
theorem okX_v {x:Cx} {v u:Value}:okX x (.v v) u↔u=v:=by
 show okV x.sz x.h x.I (.v v) u []↔_
 simp[okV]
theorem FRel.val {x S n fr a} (f:FRel x S n fr a) {o:Operand} {t:T} (h:St.val fr o=some t):okX x t (a.eval o)∧stX S t:=by
 cases o with
 | tmp d=>
  simp only[St.val] at h
  obtain⟨u,h1,h2,h3⟩:=f.tmp d t h
  have:a.eval (.tmp d)=u:=by simp[Act.eval,h1]
  rw[this];exact⟨h2,h3⟩
 | const v=>simp only[St.val,Option.some.injEq] at h;subst h;exact⟨okX_v.2 rfl,trivial⟩
 | func g=>simp only[St.val,Option.some.injEq] at h;subst h;exact⟨okX_v.2 rfl,trivial⟩
 | global g=>simp[St.val] at h
theorem valsOf_ok {x:Cx}:∀ {ts:List T} {xs us:List Value},valsOf ts=some xs→All2 (okX0 x) ts us→us=xs
 | [],xs,us,h,hk=>by simp only[valsOf,Option.some.injEq] at h;subst h;exact hk
 | t::ts,xs,us,h,hk=>by
  cases t<;>simp only[valsOf] at h<;>try contradiction
  split at h
  ·rename_i v _ ys hy
   simp only[Option.some.injEq] at h;subst h
   obtain⟨b,bs,rfl,h1,h2⟩:=hk
   have h1':okV x.sz x.h x.I (.v v) b []:=h1
   simp only[okV,and_true] at h1'
   rw[valsOf_ok hy h2,h1']
  ·simp at h
theorem toVal_ok {x:Cx} {t:T} {v u:Value} (h:toVal t=some v) (hk:okX x t u):u=v:=by
 cases t<;>simp only[toVal] at h<;>try contradiction
 ·simp only[Option.some.injEq] at h;subst h;exact okX_v.1 hk
 ·split at h
  ·rename_i xs hx
   simp only[Option.some.injEq] at h;subst h
   obtain⟨us,h1,h2⟩:=hk
   rw[h1,valsOf_ok hx h2]
  ·simp at h
def rtOf (tick:Nat) (rt:List (Nat×Root)) (d:Nat) (e:Eff):List (Nat×Root):=
 match e.root with
 | none=>setCells tick rt e.sets
 | some r=>up (setCells tick rt e.sets) d r
structure EffOk (tick:Nat) (rt:List (Nat×Root)) (d:Nat) (e:Eff):Prop where
 sets:setsOk tick rt e.sets=true
 apart:setsApart e.sets=true
 new:∀ r,e.root=some r→newOk tick rt d=true
def Done (E:Env) (z:Zn) (tick:Nat) (rt rt':List (Nat×Root)) (gh:Nat→G) (w:World) (FS:List Nat) (t:T) (u:Value) (w':World):Prop:=
 ∃ gh' FS',HRel (szOf E) z rt' gh' w' FS' []∧
  Keeps ⟨szOf E,w.heap,Inow z w (FS++[]),rt,gh⟩ ⟨szOf E,w'.heap,Inow z w' (FS'++[]),rt',gh'⟩ (Stm tick rt)∧
  okX ⟨szOf E,w'.heap,Inow z w' (FS'++[]),rt',gh'⟩ t u∧stX (Stm tick rt') t
def Upon (P:Program) (K:Value→World→Prop):Result Next→Prop
 | .ok (.value u) w=>K u w
 | .ok .skip w=>K undef w
 | .ok (.enter f args) w=>Calls P f args w fun
   | .returned u,w'=>K u w'
   | _,_=>False
 | _=>False
structure Here (E:Env) (z:Zn) (n tick:Nat) (fr:List (Nat×T)) (rt:List (Nat×Root)) (gh:Nat→G) (w:World) (FS:List Nat) (a:Act):Prop where
 heap:HRel (szOf E) z rt gh w FS []
 vers:Vers tick rt
 frame:FRel ⟨szOf E,w.heap,Inow z w (FS++[]),rt,gh⟩ (Stm tick rt) n fr a
theorem Here.done_quiet {E z n tick fr rt gh w FS a} (h:Here E z n tick fr rt gh w FS a) {t:T} {u:Value}
  (h1:okX ⟨szOf E,w.heap,Inow z w (FS++[]),rt,gh⟩ t u) (h2:stX (Stm tick rt) t):Done E z tick rt rt gh w FS t u w:=
 ⟨gh,FS,h.heap,h.heap.keeps_refl _ fun _ hb=>hb,h1,h2⟩
theorem Here.done_val {E z n tick fr rt gh w FS a} (h:Here E z n tick fr rt gh w FS a) {v:Value}:Done E z tick rt rt gh w FS (.v v) v w:=
 h.done_quiet (okX_v.2 rfl) trivial
section quiet
variable {E:Env} {z:Zn} {n tick:Nat} {fr:List (Nat×T)} {rt:List (Nat×Root)} {gh:Nat→G} {w:World} {FS:List Nat} {a:Act}
variable {call:FuncId→List Arg→Option Res} {me:FuncId} {d:Nat} {ty0:TypeId} {e:Eff} {o:Oper}
def Says (E:Env) (z:Zn) (tick:Nat) (rt:List (Nat×Root)) (gh:Nat→G) (w:World) (FS:List Nat) (d:Nat) (e:Eff) (s:Sem Next):Prop:=
 Upon E.P (Done E z tick rt (rtOf tick rt d e) gh w FS e.val) (s.run E.P w)
theorem says_quiet {s:Sem Next} {t:T} {u:Value} (h:Here E z n tick fr rt gh w FS a) (hs:s.run E.P w=.ok (.value u) w)
  (h1:okX ⟨szOf E,w.heap,Inow z w (FS++[]),rt,gh⟩ t u) (h2:stX (Stm tick rt) t):Says E z tick rt gh w FS d { val:=t } s:=by
 unfold Says
 rw[hs]
 exact h.done_quiet h1 h2
theorem plain_ok {s:Sem Value} (h:Here E z n tick fr rt gh w FS a) (he:(plainEff E s).run rt=some e):
  Says E z tick rt gh w FS d e (do pure (.value (← s))):=by
 unfold plainEff at he
 obtain⟨x,h1,h2⟩:=run_bind he
 have h1':=run_of h1
 simp only[Rd.run,Option.some.injEq] at h2
 subst h2
 refine says_quiet h (u:=x) ?_ (okX_v.2 rfl) trivial
 simp only[Sem.run_bind,pureRun_sound h1' w,Result.andThen_ok]
 rfl
theorem op_move {x:Operand} (h:Here E z n tick fr rt gh w FS a) (ho:o.op=.move x) (he:(evOp E call me (St.val fr) tick d ty0 (.move x)).run rt=some e):
  Says E z tick rt gh w FS d e (execOp a.eval o):=by
 simp only[evOp] at he
 obtain⟨t,h1,h2⟩:=run_bind he
 simp only[Rd.run,Option.some.injEq] at h2;subst h2
 obtain⟨k1,k2⟩:=h.frame.val (run_of h1)
 exact says_quiet h (by simp only[execOp,ho];rfl) k1 k2
theorem op_pick {c x y:Operand} (h:Here E z n tick fr rt gh w FS a) (ho:o.op=.pick c x y) (he:(evOp E call me (St.val fr) tick d ty0 (.pick c x y)).run rt=some e):
  Says E z tick rt gh w FS d e (execOp a.eval o):=by
 simp only[evOp] at he
 obtain⟨tc,h1,he⟩:=run_bind he
 obtain⟨tx,h2,he⟩:=run_bind he
 obtain⟨ty,h3,he⟩:=run_bind he
 have kc:=h.frame.val (run_of h1)
 have kx:=h.frame.val (run_of h2)
 have ky:=h.frame.val (run_of h3)
 clear h1 h2 h3
 split at he
 ·rename_i b _ _
  simp only[Rd.run,Option.some.injEq] at he;subst he
  have hc:=okX_v.1 kc.1
  refine says_quiet h (u:=if b then a.eval x else a.eval y) (by simp only[execOp,ho,hc];cases b<;>rfl) ?_ ?_
  all_goals unfold pickT
  ·cases b
   ·exact ky.1
   ·exact kx.1
  ·cases b
   ·exact ky.2
   ·exact kx.2
 ·simp[Rd.run] at he
theorem run_notNil {P:Program} {w:World} {ty e:TypeId} {ad:Addr} {n cap:Nat} {x y:Operand} (hu:P.underlying ty=some (.slice e)):
  (do eqGuard .eql ty x y (.slice (some ad) n cap) (.slice none 0 0);binOp .eql ty (.slice (some ad) n cap) (.slice none 0 0):Sem Value).run P w=.ok (.bool false) w:=by
 have he:(Op.equal ty (.slice (some ad) n cap) (.slice none 0 0)).run P w=.ok false w:=by
  show (Op.equalIn (9999+1) ty (.slice (some ad) n cap) (.slice none 0 0)).run P w=.ok false w
  unfold Op.equalIn
  rw[Sem.run_bind,run_underlying hu]
  rfl
 have hb:binOp .eql ty (.slice (some ad) n cap) (.slice none 0 0)=(do pure (.bool (← Op.equal ty (.slice (some ad) n cap) (.slice none 0 0)))):=rfl
 have hg:eqGuard .eql ty x y (.slice (some ad) n cap) (.slice none 0 0)=pure ():=rfl
 rw[hg,hb,Sem.run_bind]
 simp only[Sem.run_pure,Result.andThen_ok,Sem.run_bind,he]
theorem op_binOp {op:BinOp} {ty:TypeId} {x y:Operand} {cs} (ht:TiOk E) (h:Here E z n tick fr rt gh w FS a) (ho:o.op=.binOp op ty x y cs) (he:(evOp E call me (St.val fr) tick d ty0 (.binOp op ty x y cs)).run rt=some e):
  Says E z tick rt gh w FS d e (execOp a.eval o):=by
 simp only[evOp] at he
 obtain⟨tx,h1,he⟩:=run_bind he
 have g1:=run_of h1
 split at he
 ·rename_i el c es
  obtain⟨b,h2,he⟩:=run_bind he
  obtain⟨i,h3,he⟩:=run_bind he
  obtain⟨ty',q3,q4⟩:=Option.bind_eq_some_iff.1 (run_of h2)
  have ky:=toVal_ok q4 (h.frame.val q3).1
  unfold notNil at he
  split at he
  ·split at he
   ·rename_i hel
    simp only[Rd.run,Option.some.injEq] at he
    subst he
    obtain⟨e1,he1⟩:=Option.isSome_iff_exists.1 hel
    have hu:=(ht _ _ (run_of h3)).elem e1 he1
    have k1:okV (szOf E) w.heap (Inow z w (FS++[])) (.sl el (c::es)) (a.eval x) []:=(h.frame.val g1).1
    simp only[okV,true_and] at k1
    obtain⟨ad,cap,hv,_,r1⟩:=k1
    rcases r1 with r1 | ⟨b,o',arr,elt,fz,rfl,_⟩
    ·simp at r1
    ·refine says_quiet h (u:=.bool false) ?_ (okX_v.2 rfl) trivial
     have:=run_notNil (P:=E.P) (w:=w) (ty:=ty) (ad:=⟨b,o',none⟩) (n:=(c::es).length) (cap:=cap) (x:=x) (y:=y) hu
     simp only[execOp,ho,hv,ky]
     show (do pure (.value (← (do eqGuard .eql ty x y (.slice (some ⟨b,o',none⟩) (c::es).length cap) (.slice none 0 0);binOp .eql ty (.slice (some ⟨b,o',none⟩) (c::es).length cap) (.slice none 0 0):Sem Value))):Sem Next).run E.P w=_
     rw[Sem.run_bind,this]
     rfl
   ·simp[Rd.run] at he
  ·simp[Rd.run] at he
 ·obtain⟨vx,h2,he⟩:=run_bind he
  obtain⟨vy,h3,he⟩:=run_bind he
  obtain⟨ty',q3,q4⟩:=Option.bind_eq_some_iff.1 (run_of h3)
  have kx:=toVal_ok (run_of h2) (h.frame.val g1).1
  have ky:=toVal_ok q4 (h.frame.val q3).1
  have:=plain_ok (d:=d) h he
  simpa only[execOp,ho,kx,ky] using this
theorem op_unOp {op:UnOp} {ty:TypeId} {x:Operand} (h:Here E z n tick fr rt gh w FS a) (ho:o.op=.unOp op ty x) (he:(evOp E call me (St.val fr) tick d ty0 (.unOp op ty x)).run rt=some e):
  Says E z tick rt gh w FS d e (execOp a.eval o):=by
 simp only[evOp] at he
 obtain⟨vx,h1,he⟩:=run_bind he
 obtain⟨tx,q1,q2⟩:=Option.bind_eq_some_iff.1 (run_of h1)
 have kx:=toVal_ok q2 (h.frame.val q1).1
 have:=plain_ok (d:=d) h he
 simpa only[execOp,ho,kx] using this
theorem op_index {ty:TypeId} {x y:Operand} (h:Here E z n tick fr rt gh w FS a) (ho:o.op=.index ty x y) (he:(evOp E call me (St.val fr) tick d ty0 (.index ty x y)).run rt=some e):
  Says E z tick rt gh w FS d e (execOp a.eval o):=by
 simp only[evOp] at he
 obtain⟨vx,h1,he⟩:=run_bind he
 obtain⟨vy,h2,he⟩:=run_bind he
 obtain⟨tx,q1,q2⟩:=Option.bind_eq_some_iff.1 (run_of h1)
 obtain⟨ty',q3,q4⟩:=Option.bind_eq_some_iff.1 (run_of h2)
 have kx:=toVal_ok q2 (h.frame.val q1).1
 have ky:=toVal_ok q4 (h.frame.val q3).1
 have:=plain_ok (d:=d) h he
 simpa only[execOp,ho,kx,ky] using this
theorem All2.get {α β:Type} {R:α→β→Prop}:∀ {as:List α} {bs:List β} {k:Nat} {a:α},All2 R as bs→as[k]?=some a→∃ b,bs[k]?=some b∧R a b
 | [],bs,k,a,_,h=>by simp at h
 | x::as,bs,0,a,hk,h=>by
  obtain⟨b,bs',rfl,h1,_⟩:=hk
  simp only[List.getElem?_cons_zero,Option.some.injEq] at h;subst h
  exact⟨b,rfl,h1⟩
 | x::as,bs,k+1,a,hk,h=>by
  obtain⟨b,bs',rfl,_,h2⟩:=hk
  simp only[List.getElem?_cons_succ] at h
  obtain⟨c,g1,g2⟩:=All2.get h2 h
  exact⟨c,by simpa using g1,g2⟩
theorem All2.len {α β:Type} {R:α→β→Prop}:∀ {as:List α} {bs:List β},All2 R as bs→bs.length=as.length
 | [],bs,hk=>by simp only[All2] at hk;simp[hk]
 | x::as,bs,hk=>by obtain⟨b,bs',rfl,_,h2⟩:=hk;simp[h2.len]
theorem All2.drop {α β:Type} {R:α→β→Prop}:∀ {as:List α} {bs:List β} (k:Nat),All2 R as bs→All2 R (as.drop k) (bs.drop k)
 | as,bs,0,hk=>by simpa using hk
 | [],bs,k+1,hk=>by simp only[All2] at hk;subst hk;simp[All2]
 | x::as,bs,k+1,hk=>by obtain⟨b,bs',rfl,_,h2⟩:=hk;simpa using h2.drop k
theorem All2.take {α β:Type} {R:α→β→Prop}:∀ {as:List α} {bs:List β} (k:Nat),All2 R as bs→All2 R (as.take k) (bs.take k)
 | as,bs,0,hk=>by simp[All2]
 | [],bs,k+1,hk=>by simp only[All2] at hk;subst hk;simp[All2]
 | x::as,bs,k+1,hk=>by
  obtain⟨b,bs',rfl,h1,h2⟩:=hk
  simp only[List.take_succ_cons]
  exact⟨b,_,rfl,h1,h2.take k⟩
theorem okV_0 {x:Cx} {S:Nat→Nat→Prop} {t u} (h:okV x.sz x.h x.I t u []):okX0 x t u∧st0 S t:=by
 cases t<;>first | exact⟨h,trivial⟩ | (simp only[okV] at h)
theorem okL_0 {x:Cx} {S:Nat→Nat→Prop}:∀ {cs us},okL x.sz x.h x.I cs us []→All2 (okX0 x) cs us∧∀ t,t∈cs→st0 S t
 | [],us,h=>by simp only[okL] at h;exact⟨h.1,fun t ht=>by simp at ht⟩
 | c::cs,us,h=>by
  simp only[okL] at h
  obtain⟨u,us',f1,f2,rfl,hf,h1,h2⟩:=h
  obtain⟨rfl,rfl⟩:f1=[]∧f2=[]:=by simpa using hf.symm
  obtain⟨g1,g2⟩:=okL_0 (S:=S) h2
  obtain⟨g3,g4⟩:=okV_0 (S:=S) h1
  refine⟨⟨u,us',rfl,g3,g1⟩,fun t ht=>?_⟩
  rcases List.mem_cons.1 ht with rfl | ht
  ·exact g4
  ·exact g2 t ht
theorem lift01 {x:Cx} {S:Nat→Nat→Prop} {t u} (h:okX0 x t u) (hs:st0 S t):okX1 x t u∧st1 S t:=by
 cases t with
 | agg cs=>
  have h':okV x.sz x.h x.I (.agg cs) u []:=h
  simp only[okV] at h'
  obtain⟨us,h1,h2⟩:=h'
  obtain⟨g1,g2⟩:=okL_0 (S:=S) h2
  exact⟨⟨us,h1,g1⟩,g2⟩
 | clo f cs=>
  have h':okV x.sz x.h x.I (.clo f cs) u []:=h
  simp only[okV,true_and] at h'
  obtain⟨us,h1,h2⟩:=h'
  obtain⟨g1,g2⟩:=okL_0 (S:=S) h2
  exact⟨⟨us,h1,g1⟩,g2⟩
 | _=>exact⟨h,hs⟩
theorem lift12 {x:Cx} {S:Nat→Nat→Prop} {t u} (h:okX1 x t u) (hs:st1 S t):okX x t u∧stX S t:=by
 cases t with
 | tup cs=>
  have h':okV x.sz x.h x.I (.tup cs) u []:=h
  simp only[okV] at h'
  obtain⟨us,h1,h2⟩:=h'
  obtain⟨g1,g2⟩:=okL_0 (S:=S) h2
  have aux:∀ {cs:List T} {us},All2 (okX0 x) cs us→(∀ t,t∈cs→st0 S t)→All2 (okX1 x) cs us∧∀ t,t∈cs→st1 S t:=by
   intro cs
   induction cs with
   | nil=>intro us h _;exact⟨h,fun t ht=>by simp at ht⟩
   | cons c cs ih=>
    intro us h hs
    obtain⟨b,bs,rfl,q1,q2⟩:=h
    obtain⟨k1,k2⟩:=lift01 q1 (hs c (by simp))
    obtain⟨k3,k4⟩:=ih q2 fun t ht=>hs t (by simp[ht])
    refine⟨⟨b,bs,rfl,k1,k3⟩,fun t ht=>?_⟩
    rcases List.mem_cons.1 ht with rfl | ht
    ·exact k2
    ·exact k4 t ht
  obtain⟨k1,k2⟩:=aux g1 g2
  exact⟨⟨us,h1,k1⟩,k2⟩
 | _=>exact⟨h,hs⟩
theorem lift02 {x:Cx} {S:Nat→Nat→Prop} {t u} (h:okX0 x t u) (hs:st0 S t):okX x t u∧stX S t:=by
 obtain⟨h1,h2⟩:=lift01 h hs
 exact lift12 h1 h2
theorem op_extract {x:Operand} {k:Nat} (h:Here E z n tick fr rt gh w FS a) (ho:o.op=.extract x k) (he:(evOp E call me (St.val fr) tick d ty0 (.extract x k)).run rt=some e):
  Says E z tick rt gh w FS d e (execOp a.eval o):=by
 simp only[evOp] at he
 obtain⟨t,h1,he⟩:=run_bind he
 obtain⟨k1,k2⟩:=h.frame.val (run_of h1)
 clear h1
 split at he
 ·rename_i ts
  obtain⟨t',h2,he⟩:=run_bind he
  have h2:=run_of h2
  simp only[Rd.run,Option.some.injEq] at he;subst he
  obtain⟨us,q1,q2⟩:=k1
  obtain⟨u,g1,g2⟩:=q2.get h2
  obtain⟨m1,m2⟩:=lift12 g2 (k2 t' (List.mem_of_getElem? h2))
  refine says_quiet h (u:=u) ?_ m1 m2
  simp only[execOp,ho,q1,Instr.extract,List.getElem?_toArray,g1]
  rfl
 ·rename_i vs
  obtain⟨v,h2,he⟩:=run_bind he
  have h2:=run_of h2
  simp only[Rd.run,Option.some.injEq] at he;subst he
  have q1:=okX_v.1 k1
  refine says_quiet h (u:=v) ?_ (okX_v.2 rfl) trivial
  simp only[execOp,ho,q1,Instr.extract,h2]
  rfl
 ·simp[Rd.run] at he
theorem op_nilCheck {x:Operand} (h:Here E z n tick fr rt gh w FS a) (ho:o.op=.nilCheck x) (he:(evOp E call me (St.val fr) tick d ty0 (.nilCheck x)).run rt=some e):
  Says E z tick rt gh w FS d e (execOp a.eval o):=by
 simp only[evOp] at he
 obtain⟨t,h1,he⟩:=run_bind he
 have h1:=run_of h1
 obtain⟨k1,k2⟩:=h.frame.val h1
 split at he
 ·rename_i d' v p c
  simp only[Rd.run,Option.some.injEq] at he;subst he
  have k1':=k1
  obtain⟨⟨b,hb⟩,_⟩:=k1
  refine says_quiet h (u:=a.eval x) ?_ k1' k2
  simp only[execOp,ho,hb]
  rfl
 ·simp only[Rd.run,Option.some.injEq] at he;subst he
  refine says_quiet h (u:=a.eval x) ?_ k1 k2
  have k1':okV (szOf E) w.heap (Inow z w (FS++[])) (.ipt _) (a.eval x) []:=k1
  simp only[okV] at k1'
  obtain⟨_,b,o',arr,el,fz,hu,_⟩:=k1'
  simp only[execOp,ho,hu]
  rfl
 ·simp[Rd.run] at he
end quiet
theorem okL_drop {sz h I}:∀ {cs us} (k:Nat),okL sz h I cs us []→okL sz h I (cs.drop k) (us.drop k) []
 | cs,us,0,hk=>by simpa using hk
 | [],us,k+1,hk=>by simp only[okL] at hk;simp[okL,hk.1]
 | c::cs,us,k+1,hk=>by
  simp only[okL] at hk
  obtain⟨u,us',f1,f2,rfl,hf,_,h2⟩:=hk
  obtain⟨rfl,rfl⟩:f1=[]∧f2=[]:=by simpa using hf.symm
  simpa using okL_drop k h2
theorem okL_take {sz h I}:∀ {cs us} (k:Nat),okL sz h I cs us []→okL sz h I (cs.take k) (us.take k) []
 | cs,us,0,hk=>by simp[okL]
 | [],us,k+1,hk=>by simp only[okL] at hk;simp[okL,hk.1]
 | c::cs,us,k+1,hk=>by
  simp only[okL] at hk
  obtain⟨u,us',f1,f2,rfl,hf,h1,h2⟩:=hk
  obtain⟨rfl,rfl⟩:f1=[]∧f2=[]:=by simpa using hf.symm
  simp only[List.take_succ_cons,okL]
  exact⟨u,_,[],[],rfl,rfl,h1,okL_take k h2⟩
section quiet
variable {E:Env} {z:Zn} {n tick:Nat} {fr:List (Nat×T)} {rt:List (Nat×Root)} {gh:Nat→G} {w:World} {FS:List Nat} {a:Act}
variable {call:FuncId→List Arg→Option Res} {me:FuncId} {d:Nat} {ty0:TypeId} {e:Eff} {o:Oper}
theorem args_ok {x:Cx} {S:Nat→Nat→Prop} {nn:Nat} {rt:List (Nat×Root)} (f:FRel x S nn fr a):∀ {xs:List Operand} {ts:List T},(args (St.val fr) xs).run rt=some ts→
  All2 (okX x) ts (xs.map a.eval)∧∀ t,t∈ts→stX S t
 | [],ts,h=>by simp only[args,Rd.run,Option.some.injEq] at h;subst h;exact⟨rfl,fun t ht=>by simp at ht⟩
 | o::xs,ts,h=>by
  simp only[args] at h
  obtain⟨t,h1,h⟩:=run_bind h
  obtain⟨ts',h2,h⟩:=run_bind h
  simp only[Rd.run,Option.some.injEq] at h;subst h
  obtain⟨k1,k2⟩:=f.val (run_of h1)
  obtain⟨k3,k4⟩:=args_ok f h2
  refine⟨⟨_,_,rfl,k1,k3⟩,fun t' ht=>?_⟩
  rcases List.mem_cons.1 ht with rfl | ht
  ·exact k2
  ·exact k4 t' ht
theorem valsOf_X {x:Cx}:∀ {ts:List T} {xs us:List Value},valsOf ts=some xs→All2 (okX x) ts us→us=xs
 | [],xs,us,h,hk=>by simp only[valsOf,Option.some.injEq] at h;subst h;exact hk
 | t::ts,xs,us,h,hk=>by
  cases t<;>simp only[valsOf] at h<;>try contradiction
  split at h
  ·rename_i v _ ys hy
   simp only[Option.some.injEq] at h;subst h
   obtain⟨b,bs,rfl,h1,h2⟩:=hk
   rw[valsOf_X hy h2,okX_v.1 h1]
  ·simp at h
theorem op_field {ty:TypeId} {x:Operand} {f:Nat} (ht:TiOk E) (h:Here E z n tick fr rt gh w FS a) (ho:o.op=.field ty x f)
  (he:(evOp E call me (St.val fr) tick d ty0 (.field ty x f)).run rt=some e):
  Says E z tick rt gh w FS d e (execOp a.eval o):=by
 simp only[evOp] at he
 obtain⟨t,h1,he1⟩:=run_bind he
 obtain⟨i,h2,he2⟩:=run_bind he1
 obtain⟨p,h3,he3⟩:=run_bind he2
 obtain⟨it,h4,he4⟩:=run_bind he3
 clear he he1 he2 he3
 obtain⟨k1,k2⟩:=h.frame.val (run_of h1)
 have ti:=ht _ _ (run_of h2)
 obtain⟨ft,hft,hft2⟩:=Option.bind_eq_some_iff.1 (run_of h4)
 have ti0:=ht _ _ hft2
 obtain⟨off,s⟩:=p
 obtain⟨fs,fd,inf,g1,g2,g3,g4,g5⟩:=ti.fields f off s (run_of h3)
 have g6:=ti.ftys f ft hft fs fd g1 g2
 split at he4
 ·rename_i cs
  obtain⟨us,q1,q2⟩:=k1
  split at he4
  ·rename_i hc
   obtain⟨hc1,hc2⟩:=hc
   dsimp only at hc1 hc2 he4
   have hx:(execOp a.eval o).run E.P w=(do let v ← part ft us.toArray off;pure (Next.value v):Sem Next).run E.P w:=by
    simp only[execOp,ho,q1,Instr.field,Sem.run_bind,run_underlying g1,Result.andThen_ok,g2,g3,g6]
    rfl
   split at he4
   ·rename_i ha
    simp only[Rd.run,Option.some.injEq] at he4;subst he4
    refine says_quiet h (u:=.agg (us.toArray.extract off (off+it.size))) ?_ ?_ ?_
    ·rw[hx]
     simp only[part,Sem.run_bind,ti0.isAgg,ti0.size,Result.andThen_ok,ha,if_true]
     rfl
    ·refine⟨(us.drop off).take s,?_,(q2.drop off).take s⟩
     rw[hc2,List.extract_toArray]
     simp
    ·intro t' ht'
     exact k2 t' (List.mem_of_mem_drop (List.mem_of_mem_take ht'))
   ·rename_i ha
    split at he4
    ·rename_i t' ht'
     split at he4
     ·simp only[Rd.run,Option.some.injEq] at he4;subst he4
      obtain⟨u,r1,r2⟩:=q2.get ht'
      obtain⟨m1,m2⟩:=lift02 r2 (k2 t' (List.mem_of_getElem? ht'))
      refine says_quiet h (u:=u) ?_ m1 m2
      rw[hx]
      have ha':it.agg=false:=by simpa using ha
      simp only[part,Sem.run_bind,ti0.isAgg,Result.andThen_ok,ha',Bool.false_eq_true,if_false,List.getElem?_toArray,r1]
      rfl
     ·simp[Rd.run] at he4
    ·simp[Rd.run] at he4
  ·simp[Rd.run] at he4
 ·simp[Rd.run] at he4
theorem op_fieldAddr {ty:TypeId} {x:Operand} {f:Nat} (ht:TiOk E) (h:Here E z n tick fr rt gh w FS a) (ho:o.op=.fieldAddr ty x f)
  (he:(evOp E call me (St.val fr) tick d ty0 (.fieldAddr ty x f)).run rt=some e):
  Says E z tick rt gh w FS d e (execOp a.eval o):=by
 simp only[evOp] at he
 obtain⟨t,h1,he1⟩:=run_bind he
 obtain⟨i,h2,he2⟩:=run_bind he1
 obtain⟨p,h3,he3⟩:=run_bind he2
 clear he he1 he2
 obtain⟨k1,k2⟩:=h.frame.val (run_of h1)
 have ti:=ht _ _ (run_of h2)
 obtain⟨off,s⟩:=p
 obtain⟨fs,fd,inf,g1,g2,g3,g4,g5⟩:=ti.fields f off s (run_of h3)
 dsimp only at he3
 split at he3
 ·simp[Rd.run] at he3
 ·rename_i hs
  have hsz:(sizeOf fd.type).run E.P w=.ok s w:=by simp[sizeOf,run_typeInfo g4,g5]
  have hx:∀ ad,a.eval x=.pointer (some ad)→(execOp a.eval o).run E.P w=.ok (.value (.pointer (some (ad.add off)))) w:=by
   intro ad hv
   simp only[execOp,ho,hv,Instr.fieldAt,Sem.run_bind,run_underlying g1,Result.andThen_ok,g2,Instr.sureAddr,fieldPlace,g3]
   simp[hs,hsz]
  split at he3
  ·rename_i d' ver path off0
   simp only[Rd.run,Option.some.injEq] at he3;subst he3
   obtain⟨⟨ad,hv⟩,k3⟩:=k1
   refine says_quiet h (hx ad hv) ⟨⟨_,rfl⟩,?_⟩ k2
   simp only[okPtr] at k3 ⊢
   cases path with
   | nil=>
    intro r r1 r2
    obtain⟨b,q1,q2⟩:=k3 r r1 r2
    rw[hv] at q2
    simp only[Value.pointer.injEq,Option.some.injEq] at q2
    subst q2
    exact⟨b,q1,by rw[addr_add,Nat.add_assoc]⟩
   | cons p ps=>
    intro r r1 r2 cs vs b o' r3
    have q2:=k3 r r1 r2 cs vs b o' r3
    rw[hv] at q2
    simp only[Value.pointer.injEq,Option.some.injEq] at q2
    subst q2
    rw[addr_add,Nat.add_assoc]
  ·rename_i cs
   simp only[Rd.run,Option.some.injEq] at he3;subst he3
   have k1':okV (szOf E) w.heap (Inow z w (FS++[])) (.ipt cs) (a.eval x) []:=k1
   simp only[okV,true_and] at k1'
   obtain⟨b,o',arr,el,fz,hv,r1,r2,r3⟩:=k1'
   refine says_quiet h (hx _ hv) (t:=.ipt (cs.drop off)) ?_ trivial
   show okV (szOf E) w.heap (Inow z w (FS++[])) (.ipt (cs.drop off)) _ []
   simp only[okV,true_and]
   refine⟨b,o'+off,arr,el,fz,by rw[addr_add],r1,r2,?_⟩
   have:=okL_drop off r3
   rw[List.drop_take,List.drop_drop] at this
   rwa[List.length_drop]
  ·simp[Rd.run] at he3
theorem loc_snoc {sz h}:∀ {path:List (Nat×Nat)} {cs vs ad c i},loc sz h cs vs ad (path++[(c,i)])=(loc sz h cs vs ad path).bind fun q=>loc sz h q.1 q.2.1 q.2.2 [(c,i)]
 | [],cs,vs,ad,c,i=>by simp only[List.nil_append,loc,Option.bind_some]
 | (c0,i0)::rest,cs,vs,ad,c,i=>by
  simp only[List.cons_append,loc]
  split
  ·split
   ·exact loc_snoc
   ·rfl
  ·rfl
theorem intArg_ok {x:Cx} {t:T} {m:Int} {u:Value} (h:intArg t=some m) (hk:okX x t u):∃ k,u=.int k m:=by
 cases t<;>try (simp[intArg] at h;done)
 rename_i v
 cases v<;>simp only[intArg] at h<;>try contradiction
 simp only[Option.some.injEq] at h;subst h
 exact⟨_,okX_v.1 hk⟩
theorem okEs_get {sz h I} {s:Nat}:∀ {es l} {i:Nat} {c:List T},okEs sz h I s es l []→es[i]?=some c→c.length=s∧okL sz h I c ((l.drop (i*s)).take s) []
 | [],l,i,c,_,h2=>by simp at h2
 | c0::es,l,0,c,hk,h2=>by
  simp only[okEs] at hk
  obtain⟨f1,f2,h0,hf,h1,_⟩:=hk
  obtain⟨rfl,rfl⟩:f1=[]∧f2=[]:=by simpa using hf.symm
  simp only[List.getElem?_cons_zero,Option.some.injEq] at h2;subst h2
  simpa using ⟨h0,h1⟩
 | c0::es,l,i+1,c,hk,h2=>by
  simp only[okEs] at hk
  obtain⟨f1,f2,h0,hf,_,h1⟩:=hk
  obtain⟨rfl,rfl⟩:f1=[]∧f2=[]:=by simpa using hf.symm
  simp only[List.getElem?_cons_succ] at h2
  obtain⟨g1,g2⟩:=okEs_get h1 h2
  refine⟨g1,?_⟩
  rw[List.drop_drop] at g2
  have:s+i*s=(i+1)*s:=by rw[Nat.succ_mul];omega
  rwa[this] at g2
theorem loc_descend {sz h}:∀ {path:List (Nat×Nat)} {cs vs ad cs' vs' ad'},loc sz h cs vs ad path=some (cs',vs',ad')→descend cs path=some cs'
 | [],cs,vs,ad,cs',vs',ad',hl=>by simp only[loc,Option.some.injEq,Prod.mk.injEq] at hl;simp only[descend,hl.1]
 | (c,i)::rest,cs,vs,ad,cs',vs',ad',hl=>by
  simp only[loc] at hl
  split at hl
  ·rename_i h1 _
   split at hl
   ·rename_i h2 _
    simp only[descend,h1,h2]
    exact loc_descend hl
   ·simp at hl
  ·simp at hl
theorem descend_head {cs:List T} {c i rest} {t:T} (h1:cs[c]?=some t):descend cs ((c,i)::rest)=descend [t] ((0,i)::rest):=by
 simp only[descend,h1,List.getElem?_cons_zero]
theorem content_tree {rt:List (Nat×Root)} {d ver c n:Nat} {path:List (Nat×Nat)} {e:TypeId} {es:List (List T)} (h:(content d ver path c n).run rt=some (e,es)):
  ∃ r,lk rt d=some r∧r.hver=ver∧∀ cs,descend r.cells path=some cs→cs[c]?=some (.own e es)∧es.length=n:=by
 unfold content at h
 obtain⟨t,h1,h2⟩:=run_bind h
 have hfin:t=.own e es∧es.length=n:=by
  split at h2
  ·split at h2
   ·simp only[Rd.run,Option.some.injEq,Prod.mk.injEq] at h2
    obtain⟨rfl,rfl⟩:=h2
    exact⟨rfl,by assumption⟩
   ·simp[Rd.run] at h2
  ·simp[Rd.run] at h2
 obtain⟨rfl,hn⟩:=hfin
 unfold rdPlace at h1
 split at h1
 ·obtain⟨r,t,g1,g2,g3,g4⟩:=run_cell h1
  simp only[Rd.run,Option.some.injEq] at g4;subst g4
  refine⟨r,g1,g2,fun cs hcs=>?_⟩
  simp only[descend,Option.some.injEq] at hcs;subst hcs
  exact⟨g3,hn⟩
 ·obtain⟨r,t,g1,g2,g3,g4⟩:=run_cell h1
  refine⟨r,g1,g2,fun cs hcs=>?_⟩
  rw[descend_head g3] at hcs
  rw[hcs] at g4
  dsimp only at g4
  split at g4
  ·rename_i t' ht'
   simp only[Rd.run,Option.some.injEq] at g4;subst g4
   exact⟨ht',hn⟩
  ·simp[Rd.run] at g4
theorem okPtr_of {x:Cx} {d ver off:Nat} {path:List (Nat×Nat)} {u:Value} (hp:path≠[])
  (h:∀ r,lk x.rt d=some r→r.hver=ver→∀ cs vs b o,loc x.sz x.h r.cells (x.gh d).vals (x.addr d) path=some (cs,vs,some (b,o))→u=.pointer (some ⟨b,o+off,none⟩)):
  okPtr x d ver path off u:=by
 cases path with
 | nil=>exact absurd rfl hp
 | cons p ps=>exact h
theorem op_indexAddr {ty:TypeId} {x ix:Operand} (ht:TiOk E) (h:Here E z n tick fr rt gh w FS a) (ho:o.op=.indexAddr ty x ix)
  (he:(evOp E call me (St.val fr) tick d ty0 (.indexAddr ty x ix)).run rt=some e) (hg:globRows E ty x=none):
  Says E z tick rt gh w FS d e (execOp a.eval o):=by
 simp only[evOp,hg] at he
 obtain⟨t,h1,he1⟩:=run_bind he
 obtain⟨m,h2,he2⟩:=run_bind he1
 obtain⟨i,h3,he3⟩:=run_bind he2
 obtain⟨el,h4,he4⟩:=run_bind he3
 obtain⟨ie,h5,he5⟩:=run_bind he4
 clear he he1 he2 he3 he4
 obtain⟨k1,k2⟩:=h.frame.val (run_of h1)
 obtain⟨ti0,q1,q2⟩:=Option.bind_eq_some_iff.1 (run_of h2)
 obtain⟨ik,hi⟩:=intArg_ok q2 (h.frame.val q1).1
 have ti:=ht _ _ (run_of h3)
 have te:=ht _ _ (run_of h5)
 have hu:=ti.elem el (run_of h4)
 have hsz:szOf E el=ie.size:=by simp[szOf,run_of h5]
 have hx:∀ (b o' len cap:Nat),a.eval x=.slice (some ⟨b,o',none⟩) len cap→0≤m→m<len→
   (execOp a.eval o).run E.P w=.ok (.value (.pointer (some ⟨b,o'+m.toNat*szOf E el,none⟩))) w:=by
  intro b o' len cap hv h0 hm
  simp only[execOp,ho,hv,hi,Instr.indexAt,asIntOf,Sem.run_bind,Sem.run_pure,Result.andThen_ok,run_underlying hu]
  simp[h0,hm,hsz,te.size,addr_add]
 split at he5
 ·rename_i d' ver path c nn
  obtain⟨⟨e',es⟩,h6,he6⟩:=run_bind he5
  split at he6
  ·rename_i hc
   obtain⟨c1,c2,c3⟩:=hc
   dsimp only at c3;subst c3
   simp only[Rd.run,Option.some.injEq] at he6;subst he6
   obtain⟨k0,k1⟩:=k1
   obtain⟨f,r1,r2,r3⟩:=h.heap.content k1 h6
   have hlt:m.toNat<es.length:=by omega
   have hg:es[m.toNat]?=some es[m.toNat]:=by simp[hlt]
   obtain⟨b,o',cap,arr,elt,fz,fs',v1,v2,v3,v4,v5,v6,v7⟩:=own_some r1 hg
   refine says_quiet h (hx b o' es.length cap v1 c1 (by omega)) ⟨⟨_,rfl⟩,?_⟩ k2
   have hne:path++[(c,m.toNat)]≠[]:=by simp
   have key:∀ r,lk rt d'=some r→r.hver=ver→∀ cs vs b2 o2,loc (szOf E) w.heap r.cells (gh d').vals ((gh d').blk.map fun b=>(b.b,b.pre.length)) (path++[(c,m.toNat)])=some (cs,vs,some (b2,o2))→
     Value.pointer (some ⟨b,o'+m.toNat*szOf E e',none⟩)=.pointer (some ⟨b2,o2+0,none⟩):=by
    intro r g1 g2 cs vs b2 o2 g3
    rw[loc_snoc] at g3
    obtain⟨⟨cs0,vs0,ad0⟩,g4,g5⟩:=Option.bind_eq_some_iff.1 g3
    simp only[loc] at g5
    split at g5
    ·rename_i e2 es2 a2 _ _ g6 g7
     split at g5
     ·rename_i cs' arr2 _ _ g8 g9
      simp only[Option.some.injEq,Prod.mk.injEq] at g5
      obtain⟨rfl,_,g10,g11⟩:=g5
      obtain⟨r',m1,m2,m3⟩:=content_tree h6
      rw[g1] at m1
      simp only[Option.some.injEq] at m1;subst m1
      obtain⟨m4,m5⟩:=m3 cs0 (loc_descend g4)
      rw[m4] at g6
      simp only[Option.some.injEq,T.own.injEq] at g6
      obtain⟨rfl,rfl⟩:=g6
      have m6:=k1 r g1 g2 cs0 vs0 ad0 g4 e' es m4 m5
      rw[g7,v1] at m6
      simp only[Option.some.injEq,Value.slice.injEq] at m6
      obtain⟨rfl,_⟩:=m6
      dsimp only at g10 g11
      subst g10;subst g11
      rfl
     ·simp at g5
    ·simp at g5
   exact okPtr_of hne key
  ·simp[Rd.run] at he6
 ·rename_i e' es
  split at he5
  ·rename_i hc
   obtain⟨c1,rfl⟩:=hc
   split at he5
   ·rename_i cs hcs
    split at he5
    ·rename_i hl
     simp only[Rd.run,Option.some.injEq] at he5;subst he5
     have k1':okV (szOf E) w.heap (Inow z w (FS++[])) (.sl e' es) (a.eval x) []:=k1
     simp only[okV,true_and] at k1'
     obtain⟨ad,cap,hv,_,r1⟩:=k1'
     rcases r1 with rfl | ⟨b,o',arr,elt,fz,rfl,r2,r3,r4⟩
     ·simp at hcs
     ·have hlt:m.toNat<es.length:=(List.getElem?_eq_some_iff.1 hcs).1
      refine says_quiet h (hx b o' es.length cap hv c1 (by omega)) (t:=.ipt cs) ?_ trivial
      show okV (szOf E) w.heap (Inow z w (FS++[])) (.ipt cs) _ []
      simp only[okV,true_and]
      obtain⟨g1,g2⟩:=okEs_get r4 hcs
      refine⟨b,_,arr,elt,fz,rfl,r2,r3,?_⟩
      rw[List.drop_drop] at g2
      rw[g1];exact g2
    ·simp[Rd.run] at he5
   ·simp[Rd.run] at he5
  ·simp[Rd.run] at he5
 ·simp[Rd.run] at he5
end quiet
theorem rdCells_run {rt:List (Nat×Root)} {d ver:Nat}:∀ {n off:Nat} {cs:List T},(rdCells d ver off n).run rt=some cs→0<n→
  ∃ r,lk rt d=some r∧r.ver=ver∧off+n≤r.cells.length∧cs=(r.cells.drop off).take n
 | 0,off,cs,h,hn=>by omega
 | n+1,off,cs,h,hn=>by
  simp only[rdCells] at h
  obtain⟨r,t,h1,h2,h3,h4⟩:=run_cell h
  obtain⟨ts,h5,h6⟩:=run_bind h4
  simp only[Rd.run,Option.some.injEq] at h6;subst h6
  have hlt:off<r.cells.length:=(List.getElem?_eq_some_iff.1 h3).1
  have h2':r.ver=ver:=h2
  have hd:r.cells.drop off=t::r.cells.drop (off+1):=by
   rw[List.drop_eq_getElem_cons hlt]
   have:=(List.getElem?_eq_some_iff.1 h3).2
   rw[this]
  rcases Nat.eq_zero_or_pos n with rfl | hp
  ·simp only[rdCells,Rd.run,Option.some.injEq] at h5;subst h5
   exact⟨r,h1,h2',by omega,by rw[hd];simp⟩
  ·obtain⟨r',g1,g2,g3,g4⟩:=rdCells_run h5 hp
   rw[h1] at g1
   simp only[Option.some.injEq] at g1;subst g1
   exact⟨r,h1,h2',by omega,by rw[hd,g4];simp⟩
structure Row (sz:TypeId→Nat) (I:Nat→Prop) (rt:List (Nat×Root)) (gh:Nat→G) (w:World) (FS:List Nat) (d ver:Nat) (path:List (Nat×Nat)) (off:Nat) (u:Value)
  (ro:Root) (cs0:List T) (b o:Nat) (arr:Array Value) (el:TypeId) (fz:Nat×Nat) (f:List Nat):Prop where
 root:lk rt d=some ro
 ver:ro.at_ (!path.isEmpty)=ver
 loc:loc sz w.heap ro.cells (gh d).vals ((gh d).blk.map fun b=>(b.b,b.pre.length)) path=some (cs0,(arr.toList.drop o).take cs0.length,some (b,o))
 val:u=.pointer (some ⟨b,o+off,none⟩)
 heap:w.heap[b]?=some (.cells arr el fz)
 free:fzFree fz arr.size
 fits:o+cs0.length≤arr.size
 ok:okL sz w.heap I cs0 ((arr.toList.drop o).take cs0.length) f
 sub:∀ x,x∈f→x∈FS
 blk:b∈FS
 apart:b∉f
 desc:descend ro.cells path=some cs0
theorem HRel.row {sz z rt gh w FS X} {d ver off n:Nat} {path:List (Nat×Nat)} {u:Value} {cs:List T} (r:HRel sz z rt gh w FS X)
  (hk:okPtr ⟨sz,w.heap,Inow z w (FS++X),rt,gh⟩ d ver path off u) (h:(rdRow d ver path off n).run rt=some cs) (hn:0<n∨path≠[]):
  ∃ ro cs0 b o arr el fz f,Row sz (Inow z w (FS++X)) rt gh w FS d ver path off u ro cs0 b o arr el fz f∧off+n≤cs0.length∧cs=(cs0.drop off).take n:=by
 cases path with
 | nil=>
  simp only[rdRow] at h
  obtain⟨ro,h1,h2,h3,h4⟩:=rdCells_run h (by simpa using hn)
  obtain⟨⟨b,pre,post,el,fz⟩,g1,g2⟩:=hk ro h1 h2
  obtain⟨fo,hr,hs⟩:=okRts_get r.roots h1
  obtain⟨frr,rr,q1,q2,_⟩:=okRts_up (d:=d) r.srt r.roots
  have huFS:Uniq FS:=fun x=>by have:=r.uniq x;simp only[List.count_append] at this;omega
  have hr2:=q2 ro h1
  unfold okRoot at hr2
  rw[g1] at hr2
  obtain⟨_,fs',arr,rfl,k1,k2,k3,k4⟩:=hr2
  simp only at g2 k1 k2 k3
  have hb:b∉fs':=fun hm=>by
   have:=q1.uniq_l huFS b
   simp only[List.count_cons_self] at this
   have:=List.count_pos_iff.2 hm
   omega
  have hin:∀ x,x∈b::fs'→x∈FS:=fun x hx=>(q1.mem x).2 (.inl hx)
  have hlen:=okL_length k4
  have hsz:arr.size=pre.length+ro.cells.length+post.length:=by have:=congrArg List.length k3;simp at this;omega
  have hv:(arr.toList.drop pre.length).take ro.cells.length=(gh d).vals:=by
   rw[k3,List.append_assoc,List.drop_left,List.take_append_of_le_length (by omega),List.take_of_length_le (by omega)]
  refine⟨ro,ro.cells,b,pre.length,arr,el,fz,fs',⟨h1,h2,?_,g2,k1,k2,by omega,?_,fun x hx=>hin x (by simp[hx]),hin b (by simp),hb,rfl⟩,h3,h4⟩
  ·rw[hv,g1];rfl
  ·rw[hv];exact k4
 | cons p rest=>
  obtain⟨c0,i⟩:=p
  simp only[rdRow] at h
  obtain⟨ro,t,g1,g2,g3,g4⟩:=run_cell h
  split at g4
  ·rename_i cs0 hd
   split at g4
   ·rename_i hle
    simp only[Rd.run,Option.some.injEq] at g4;subst g4
    obtain⟨u0,b,o,arr,el,fz,f,m1,m2,m3,m4,m5,m6,m6',m7,m8,m9⟩:=r.locate g1 g3 hd
    refine⟨ro,cs0,b,o,arr,el,fz,f,⟨g1,g2,m9 _,?_,m3,m4,m5,m7,m8,m6,m6',?_⟩,hle,rfl⟩
    ·exact hk ro g1 g2 cs0 _ b o (m9 _)
    ·rw[descend_head g3];exact hd
   ·simp[Rd.run] at g4
  ·simp[Rd.run] at g4
theorem okV_cell {sz h I t u f} (hk:okV sz h I t u f) (hc:cell1 t=true) (hn:isOwn t=false):f=[]:=by
 cases t<;>simp_all [okV,cell1,isOwn]
theorem anyOwn_false:∀ {cs:List T},anyOwn cs=false→∀ t,t∈cs→isOwn t=false
 | [],_,t,ht=>by simp at ht
 | c::cs,h,t,ht=>by
  simp only[anyOwn,Bool.or_eq_false_iff] at h
  rcases List.mem_cons.1 ht with rfl | ht
  ·exact h.1
  ·exact anyOwn_false h.2 t ht
theorem okL_cells {sz h I}:∀ {cs us f},okL sz h I cs us f→(∀ t,t∈cs→cell1 t=true∧isOwn t=false)→okL sz h I cs us []
 | [],us,f,hk,_=>by simp only[okL] at hk ⊢;exact⟨hk.1,trivial⟩
 | c::cs,us,f,hk,ha=>by
  simp only[okL] at hk ⊢
  obtain⟨u,us',f1,f2,rfl,rfl,h1,h2⟩:=hk
  have:=okV_cell h1 (ha c (by simp)).1 (ha c (by simp)).2
  subst this
  exact⟨u,us',[],[],rfl,rfl,h1,okL_cells h2 fun t ht=>ha t (by simp[ht])⟩
theorem okL_sub {sz h I}:∀ {cs us f} (k n:Nat),okL sz h I cs us f→k+n≤cs.length→∃ f' r,Both f f' r∧okL sz h I ((cs.drop k).take n) ((us.drop k).take n) f'
 | cs,us,f,0,0,hk,_=>⟨[],f,fun x=>by simp,by simp[okL]⟩
 | [],us,f,k+1,n,hk,hle=>by simp at hle
 | [],us,f,0,n+1,hk,hle=>by simp at hle
 | c::cs,us,f,k+1,n,hk,hle=>by
  simp only[okL] at hk
  obtain⟨u,us',f1,f2,rfl,rfl,h1,h2⟩:=hk
  obtain⟨f',r,g1,g2⟩:=okL_sub k n h2 (by simp at hle;omega)
  exact⟨f',f1++r,fun x=>by have:=g1 x;simp only[List.count_append];omega,by simpa using g2⟩
 | c::cs,us,f,0,n+1,hk,hle=>by
  simp only[okL] at hk
  obtain⟨u,us',f1,f2,rfl,rfl,h1,h2⟩:=hk
  obtain⟨f',r,g1,g2⟩:=okL_sub 0 n h2 (by simp at hle;omega)
  refine⟨f1++f',r,fun x=>by have:=g1 x;simp only[List.count_append];omega,?_⟩
  simp only[List.drop_zero,List.take_succ_cons,okL] at g2 ⊢
  exact⟨u,_,f1,f',rfl,rfl,h1,g2⟩
theorem view_ok {x:Cx} {d hv:Nat} {path:List (Nat×Nat)} {vs0:List Value} {cs0:List T} {S:Nat→Nat→Prop} (hS:S d hv)
  (hp:∀ k e es u,cs0[k]?=some (.own e es)→vs0[k]?=some u→okRef x d hv path k es.length u):
  ∀ {cs us f} (k:Nat),okL x.sz x.h x.I cs us f→(∀ j t,cs[j]?=some t→cs0[k+j]?=some t)→(∀ j u,us[j]?=some u→vs0[k+j]?=some u)→
   All2 (okX0 x) (viewFrom d hv path k cs) us∧∀ t,t∈viewFrom d hv path k cs→st0 S t
 | [],us,f,k,hk,_,_=>by
  simp only[okL] at hk
  exact⟨hk.1,fun t ht=>by simp[viewFrom] at ht⟩
 | c::cs,us,f,k,hk,hc,hu=>by
  simp only[okL] at hk
  obtain⟨u,us',f1,f2,rfl,rfl,h1,h2⟩:=hk
  obtain⟨g1,g2⟩:=view_ok hS hp (k+1) h2 (fun j t hj=>by have:=hc (j+1) t (by simpa using hj);(have e:k+(j+1)=k+1+j:=by omega);rwa[e] at this)
   (fun j v hj=>by have:=hu (j+1) v (by simpa using hj);(have e:k+(j+1)=k+1+j:=by omega);rwa[e] at this)
  have key:okX0 x (view1 d hv path k c) u∧st0 S (view1 d hv path k c):=by
   cases hcc:c with
   | own e es=>
    subst hcc
    refine⟨⟨?_,hp k e es u (by simpa using hc 0 _ (by simp)) (by simpa using hu 0 _ (by simp))⟩,hS⟩
    simp only[okV] at h1
    rcases h1 with⟨rfl,_,a,rfl⟩ | ⟨b,o,cap,arr,el,fz,fs',rfl,_⟩
    ·exact⟨a,0,rfl⟩
    ·exact⟨_,_,rfl⟩
   | agg _=>exact⟨by show okV x.sz x.h x.I .dead u [];simp[okV],trivial⟩
   | tup _=>exact⟨by show okV x.sz x.h x.I .dead u [];simp[okV],trivial⟩
   | obx _=>exact⟨by show okV x.sz x.h x.I .dead u [];simp[okV],trivial⟩
   | _=>
    subst hcc
    have:=okV_cell h1 rfl rfl
    subst this
    exact okV_0 h1
  refine⟨⟨u,us',rfl,key.1,g1⟩,fun t ht=>?_⟩
  simp only[viewFrom] at ht
  rcases List.mem_cons.1 ht with rfl | ht
  ·exact key.2
  ·exact g2 t ht
theorem okRef_of_row {sz z rt gh w FS X} {d ver off:Nat} {path:List (Nat×Nat)} {u:Value} {ro:Root} {cs0:List T} {b o:Nat} {arr:Array Value} {el:TypeId} {fz:Nat×Nat} {f:List Nat}
  (_:HRel sz z rt gh w FS X) (R:Row sz (Inow z w (FS++X)) rt gh w FS d ver path off u ro cs0 b o arr el fz f):
  ∀ k e es v,cs0[k]?=some (.own e es)→((arr.toList.drop o).take cs0.length)[k]?=some v→okRef ⟨sz,w.heap,Inow z w (FS++X),rt,gh⟩ d ro.hver path k es.length v:=by
 intro k e es v h1 h2 r g1 g2 cs vs ad g3 e' es' g4 g5
 rw[R.root] at g1
 simp only[Option.some.injEq] at g1;subst g1
 have:=R.loc
 rw[show (⟨sz,w.heap,Inow z w (FS++X),rt,gh⟩:Cx).addr d=((gh d).blk.map fun b=>(b.b,b.pre.length)) from rfl] at g3
 rw[this] at g3
 simp only[Option.some.injEq,Prod.mk.injEq] at g3
 obtain⟨rfl,rfl,_⟩:=g3
 exact h2
theorem run_load_ok {P:Program} {w:World} {b o:Nat} {arr:Array Value} {el:TypeId} {fz:Nat×Nat} {v:Value} (h:w.heap[b]?=some (.cells arr el fz)) (hv:arr[o]?=some v):
  (load ⟨b,o,none⟩).run P w=.ok v w:=by
 simp[load,Sem.run,cell_of h hv]
theorem stamp_ok {tick d ver:Nat} {path:List (Nat×Nat)} {rt:List (Nat×Root)} {hv:Nat} (hvs:Vers tick rt) (hst:Stm tick rt d ver) (h:(stamp tick d ver path).run rt=some hv):
  ∃ r,lk rt d=some r∧r.hver=hv∧Stm tick rt d hv:=by
 unfold stamp at h
 obtain⟨r,h1,h2,h3⟩:=run_stamp h
 split at h3
 ·rename_i hc
  simp only[Rd.run,Option.some.injEq] at h3;subst h3
  have:=hvs d r h1
  refine⟨r,h1,rfl,?_⟩
  rcases hc with hc | hc
  ·exact⟨by omega,fun he=>by omega⟩
  ·rw[hc];exact hst
 ·simp[Rd.run] at h3
section quiet
variable {E:Env} {z:Zn} {n tick:Nat} {fr:List (Nat×T)} {rt:List (Nat×Root)} {gh:Nat→G} {w:World} {FS:List Nat} {a:Act}
variable {call:FuncId→List Arg→Option Res} {me:FuncId} {d:Nat} {ty0:TypeId} {e:Eff} {o:Oper}
theorem run_loadVar_agg {ty:TypeId} {i:TInfo} (ti:TOk E ty i) (ha:i.agg=true) (ad:Addr):(loadVar ty ad).run E.P w=(do pure (.agg (← loadCells ad i.size)):Sem Value).run E.P w:=by
 simp only[loadVar,Sem.run_bind,ti.isAgg,Result.andThen_ok,ha,if_true,ti.size]
theorem run_loadVar_one {ty:TypeId} {i:TInfo} (ti:TOk E ty i) (ha:i.agg=false) (ad:Addr):(loadVar ty ad).run E.P w=(load ad).run E.P w:=by
 simp only[loadVar,Sem.run_bind,ti.isAgg,Result.andThen_ok,ha,Bool.false_eq_true,if_false]
theorem load_cells {ty:TypeId} {i:TInfo} {t:T} {b o:Nat} {arr:Array Value} {el:TypeId} {fz:Nat×Nat} {ts:List T} (ti:TOk E ty i) (hb:w.heap[b]?=some (.cells arr el fz)) (hsz:o+i.size≤arr.size)
  {x:Cx} {S:Nat→Nat→Prop} (h1:All2 (okX0 x) ts ((arr.toList.drop o).take i.size)) (h2:∀ t,t∈ts→st0 S t)
  (ht:if i.agg then t=.agg ts else ts=[t]):∃ u,(loadVar ty ⟨b,o,none⟩).run E.P w=.ok u w∧okX x t u∧stX S t:=by
 cases ha:i.agg with
 | true=>
  rw[ha,if_pos rfl] at ht;subst ht
  refine⟨.agg ((arr.toList.drop o).take i.size).toArray,?_,⟨_,rfl,h1⟩,h2⟩
  rw[run_loadVar_agg ti ha,Sem.run_bind,run_loadCells_ok hb hsz]
  rfl
 | false=>
  rw[ha,if_neg (by simp)] at ht;subst ht
  obtain⟨u,us,g1,g2,g3⟩:=h1
  simp only[All2] at g3;subst g3
  obtain⟨m1,m2⟩:=lift02 g2 (h2 t (by simp))
  refine⟨u,?_,m1,m2⟩
  rw[run_loadVar_one ti ha]
  refine run_load_ok hb ?_
  have:((arr.toList.drop o).take i.size)[0]?=some u:=by rw[g1];rfl
  rw[List.getElem?_take] at this
  split at this
  ·rw[List.getElem?_drop] at this;simpa using this
  ·simp at this
theorem loadT_ok (ht:TiOk E) (h:Here E z n tick fr rt gh w FS a) {ty:TypeId} {t t':T} {u:Value} (he:(loadT E tick ty t).run rt=some t')
  (k1:okX ⟨szOf E,w.heap,Inow z w (FS++[]),rt,gh⟩ t u) (k2:stX (Stm tick rt) t):
  ∃ u',(Instr.loadAt ty u).run E.P w=.ok u' w∧okX ⟨szOf E,w.heap,Inow z w (FS++[]),rt,gh⟩ t' u'∧stX (Stm tick rt) t':=by
 unfold loadT at he
 split at he
 ·simp[Rd.run] at he
 ·rename_i i hi
  have ti:=ht _ _ hi
  split at he
  ·rename_i d' ver path off
   obtain⟨cs,h1,he1⟩:=run_bind he
   clear he
   obtain⟨⟨ad,hu⟩,k3⟩:=k1
   have hrun:(Instr.loadAt ty u).run E.P w=(loadVar ty ad).run E.P w:=by
    simp only[Instr.loadAt,hu,Instr.sureAddr,Sem.run_bind,Sem.run_pure,Result.andThen_ok]
   by_cases h0:0<i.size∨path≠[]
   ·obtain⟨ro,cs0,b,o',arr,el,fz,f,R,r1,r2⟩:=h.heap.row k3 h1 h0
    have hv:=R.val
    rw[hu] at hv
    simp only[Value.pointer.injEq,Option.some.injEq] at hv;subst hv
    rw[hrun]
    have hfit:o'+off+i.size≤arr.size:=by have:=R.fits;omega
    obtain⟨f',rr,q1,q2⟩:=okL_sub off i.size R.ok r1
    rw[←r2] at q2
    have hrow:(((arr.toList.drop o').take cs0.length).drop off).take i.size=(arr.toList.drop (o'+off)).take i.size:=by
     rw[List.drop_take,List.take_take,List.drop_drop,Nat.min_eq_left (by omega)]
    rw[hrow] at q2
    split at he1
    ·obtain⟨hv,h2,he2⟩:=run_bind he1
     obtain⟨r',s1,s2,s3⟩:=stamp_ok h.vers k2 h2
     rw[R.root] at s1
     simp only[Option.some.injEq] at s1;subst s1;subst s2
     obtain⟨v1,v2⟩:=view_ok s3 (okRef_of_row h.heap R) off q2
      (fun j t hj=>by
       rw[r2,List.getElem?_take] at hj
       split at hj
       ·rw[List.getElem?_drop] at hj;exact hj
       ·simp at hj)
      (fun j v hj=>by
       rw[←hrow,List.getElem?_take] at hj
       split at hj
       ·rw[List.getElem?_drop] at hj;exact hj
       ·simp at hj)
     refine load_cells ti R.heap hfit v1 v2 ?_
     clear h1 h2 he1
     split at he2
     ·rename_i ha
      simp only[Rd.run,Option.some.injEq] at he2
      rw[if_pos ha,←he2]
     ·rename_i ha
      rw[if_neg ha]
      split at he2
      ·simp only[Rd.run,Option.some.injEq] at he2
       rw[←he2];rfl
      ·simp[Rd.run] at he2
    ·rename_i hno
     split at he1
     ·simp[Rd.run] at he1
     ·rename_i hall
      simp only[Bool.not_eq_true',Bool.not_eq_false,List.all_eq_true] at hall
      have hno':=anyOwn_false (by simpa using hno)
      obtain⟨v1,v2⟩:=okL_0 (x:=⟨szOf E,w.heap,Inow z w (FS++[]),rt,gh⟩) (S:=Stm tick rt) (okL_cells q2 fun t ht=>⟨hall t ht,hno' t ht⟩)
      refine load_cells ti R.heap hfit v1 v2 ?_
      split at he1
      ·rename_i ha
       simp only[Rd.run,Option.some.injEq] at he1
       rw[if_pos ha,←he1]
      ·rename_i ha
       rw[if_neg ha]
       split at he1
       ·simp only[Rd.run,Option.some.injEq] at he1
        rw[←he1]
       ·simp[Rd.run] at he1
   ·have hz:i.size=0:=by omega
    have hp:path=[]:=by
     rcases path with _ | ⟨p,ps⟩
     ·rfl
     ·exact absurd (Or.inr (by simp)) h0
    subst hp
    rw[hz] at h1
    simp only[rdRow,rdCells,Rd.run,Option.some.injEq] at h1;subst h1
    simp only[anyOwn,Bool.false_eq_true,if_false,List.all_nil,Bool.not_true] at he1
    split at he1
    ·rename_i ha
     simp only[Rd.run,Option.some.injEq] at he1;subst he1
     refine⟨.agg #[],?_,⟨[],rfl,rfl⟩,fun t ht=>by simp at ht⟩
     rw[hrun,run_loadVar_agg ti ha,hz]
     rfl
    ·simp[Rd.run] at he1
  ·rename_i d' ver path off
   split at he
   ·rename_i hcond
    simp only[Rd.run,Option.some.injEq] at he;subst he
    obtain⟨b,arr,el,fz,u',hu,r1,r2,r3,r4,r5⟩:=k1
    have hrun:(Instr.loadAt ty u).run E.P w=(loadVar ty ⟨b,0,none⟩).run E.P w:=by
     simp only[Instr.loadAt,hu,Instr.sureAddr,Sem.run_bind,Sem.run_pure,Result.andThen_ok]
    rw[hrun]
    have hal:arr.toList.length=arr.size:=Array.length_toList
    rw[r3] at hal
    refine load_cells (ts:=[.ptr d' ver path off]) ti r2 (by rw[hcond.1,←hal];simp) ?_ (fun t ht=>?_) (by rw[hcond.2];rfl)
    ·rw[hcond.1,r3];exact⟨u',[],rfl,⟨r4,r5⟩,rfl⟩
    ·rw[List.mem_singleton.1 ht];exact k2
   ·simp[Rd.run] at he
  ·rename_i cs
   have k1':okV (szOf E) w.heap (Inow z w (FS++[])) (.ipt cs) u []:=k1
   simp only[okV,true_and] at k1'
   obtain⟨b,o',arr,el,fz,hu,r1,r2,r3⟩:=k1'
   have hrun:(Instr.loadAt ty u).run E.P w=(loadVar ty ⟨b,o',none⟩).run E.P w:=by
    simp only[Instr.loadAt,hu,Instr.sureAddr,Sem.run_bind,Sem.run_pure,Result.andThen_ok]
   rw[hrun]
   split at he
   ·rename_i hle
    have hlen:=okL_length r3
    rw[List.length_take,List.length_drop] at hlen
    have hal:arr.toList.length=arr.size:=Array.length_toList
    have q2:=okL_take i.size r3
    rw[List.take_take,Nat.min_eq_left hle] at q2
    obtain⟨v1,v2⟩:=okL_0 (x:=⟨szOf E,w.heap,Inow z w (FS++[]),rt,gh⟩) (S:=Stm tick rt) q2
    by_cases hz:i.size=0
    ·have hcs:cs.take i.size=[]:=by rw[hz];simp
     split at he
     ·rename_i ha
      simp only[Rd.run,Option.some.injEq] at he;subst he
      rw[hcs]
      refine⟨.agg #[],?_,⟨[],rfl,rfl⟩,fun t ht=>by simp at ht⟩
      rw[run_loadVar_agg ti ha,hz]
      rfl
     ·split at he
      ·rw[if_neg (by omega)] at he
       simp[Rd.run] at he
      ·simp[Rd.run] at he
    ·refine load_cells ti r2 (by omega) v1 v2 ?_
     split at he
     ·rename_i ha
      simp only[Rd.run,Option.some.injEq] at he
      rw[if_pos ha,←he]
     ·rename_i ha
      rw[if_neg ha]
      split at he
      ·split at he
       ·rename_i h1
        simp only[Rd.run,Option.some.injEq] at he
        rw[h1,←he];rfl
       ·simp[Rd.run] at he
      ·simp[Rd.run] at he
   ·simp[Rd.run] at he
  ·simp[Rd.run] at he
theorem op_load {ty:TypeId} {x:Operand} (ht:TiOk E) (h:Here E z n tick fr rt gh w FS a) (ho:o.op=.load ty x)
  (he:(evOp E call me (St.val fr) tick d ty0 (.load ty x)).run rt=some e):
  Says E z tick rt gh w FS d e (execOp a.eval o):=by
 simp only[evOp] at he
 obtain⟨t,h1,he1⟩:=run_bind he
 obtain⟨t',h2,he2⟩:=run_bind he1
 simp only[Rd.run,Option.some.injEq] at he2;subst he2
 obtain⟨k1,k2⟩:=h.frame.val (run_of h1)
 obtain⟨u',g1,g2,g3⟩:=loadT_ok ht h h2 k1 k2
 refine says_quiet h (u:=u') ?_ g2 g3
 simp only[execOp,ho,Sem.run_bind,g1,Result.andThen_ok]
 rfl
end quiet
theorem okEs_bytes {sz h I} {s:Nat}:∀ {es:List (List T)} {l f bs},okEs sz h I s es l f→bytesOfT es=some bs→es≠[]→
  s=1∧∃ ns:List Int,l.take es.length=ns.map (Value.int .u8)∧bs=ns.map fun n=>UInt8.ofNat n.toNat
 | [],l,f,bs,_,_,hn=>absurd rfl hn
 | c::es,l,f,bs,hk,hb,_=>by
  simp only[okEs] at hk
  obtain⟨f1,f2,h0,_,h1,h2⟩:=hk
  unfold bytesOfT at hb
  split at hb
  ·rename_i heq;simp at heq
  ·rename_i n es' heq
   simp only[List.cons.injEq] at heq
   obtain⟨rfl,rfl⟩:=heq
   split at hb
   ·rename_i bs' hb'
    simp only[Option.some.injEq] at hb;subst hb
    simp only[List.length_cons,List.length_nil] at h0
    subst h0
    refine⟨rfl,?_⟩
    simp only[okL,okV] at h1
    obtain⟨u,us,q1,q2,h3,_,⟨rfl,_⟩,rfl,_⟩:=h1
    have hl:∃ l',l=.int .u8 n::l':=by
     cases l with
     | nil=>simp at h3
     | cons x l'=>simp at h3;exact⟨l',by rw[h3]⟩
    obtain⟨l',rfl⟩:=hl
    simp only[List.drop_succ_cons,List.drop_zero] at h2
    by_cases hes:es=[]
    ·subst hes
     simp only[bytesOfT,Option.some.injEq] at hb';subst hb'
     exact⟨[n],by simp,by simp⟩
    ·obtain⟨_,ns,g1,g2⟩:=okEs_bytes h2 hb' hes
     exact⟨n::ns,by simp[g1],by simp[g2]⟩
   ·simp at hb
  ·simp at hb
section quiet
variable {E:Env} {z:Zn} {n tick:Nat} {fr:List (Nat×T)} {rt:List (Nat×Root)} {gh:Nat→G} {w:World} {FS:List Nat} {a:Act}
variable {call:FuncId→List Arg→Option Res} {me:FuncId} {d:Nat} {ty0:TypeId} {e:Eff} {o:Oper}
theorem run_u8 {P:Program} {src dst:TypeId} (h:pureRun P (isU8Slice src dst)=some true):∃ e,P.underlying src=some (.slice e)∧P.underlying e=some (.int .u8)∧P.underlying dst=some .string:=by
 have h2:=pureRun_sound h (default:World)
 unfold isU8Slice at h2
 simp only[Sem.run_bind,underlying,program,Sem.run] at h2
 cases hs:P.underlying src with
 | none=>simp[hs,stuck,Result.andThen] at h2
 | some s=>
  cases hd:P.underlying dst with
  | none=>simp[hs,hd,stuck,Result.andThen] at h2
  | some dd=>
   simp only[hs,hd,Result.andThen] at h2
   cases s<;>cases dd<;>simp[Sem.run] at h2
   rename_i e
   cases he:P.underlying e with
   | none=>simp[he,stuck] at h2
   | some k=>
    cases k<;>simp[he] at h2
    rename_i k
    cases k<;>simp at h2
    exact⟨e,rfl,he,rfl⟩
theorem convert_bytes {src dst:TypeId} {es:List (List T)} {bs:List UInt8} {ad:Option Addr} {cap:Nat} (hu:pureRun E.P (isU8Slice src dst)=some true) (hb:bytesOfT es=some bs)
  (hk:es=[]∨∃ b o arr el fz s f I,ad=some ⟨b,o,none⟩∧w.heap[b]?=some (.cells arr el fz)∧okEs (szOf E) w.heap I s es (arr.toList.drop o) f):
  (convert src dst (.slice ad es.length cap)).run E.P w=.ok (.string ⟨bs.toArray⟩) w:=by
 obtain⟨e,h1,h2,h3⟩:=run_u8 hu
 rw[run_convert_bytes_string w src dst e _ _ _ h1 h2 h3]
 by_cases hes:es=[]
 ·subst hes
  simp only[bytesOfT,Option.some.injEq] at hb;subst hb
  cases ad with
  | none=>rfl
  | some ad=>
   rw[run_bytesToString w ad _ cap [] (by rfl)]
   rfl
 ·obtain⟨b,o',arr,el,fz,s,f,I,rfl,g1,g2⟩:=hk.resolve_left hes
  obtain⟨rfl,ns,g3,rfl⟩:=okEs_bytes g2 hb hes
  have hlen:ns.length=es.length:=by
   have hle:es.length≤(arr.toList.drop o').length:=by
    have:∀ {es:List (List T)} {l f},okEs (szOf E) w.heap I 1 es l f→es.length≤l.length:=by
     intro es
     induction es with
     | nil=>intro l f _;simp
     | cons c es ih=>
      intro l f hk
      simp only[okEs] at hk
      obtain⟨f1,f2,h0,_,h1,h2⟩:=hk
      have q1:=okL_length h1
      have q2:=ih h2
      rw[List.length_take] at q1
      rw[List.length_drop] at q2
      simp only[List.length_cons]
      omega
    exact this g2
   have:=congrArg List.length g3
   rw[List.length_take,List.length_map] at this
   omega
  have hsz:o'+es.length≤arr.size:=by
   have:=congrArg List.length g3
   rw[List.length_take,List.length_map,List.length_drop,hlen] at this
   have hal:arr.toList.length=arr.size:=Array.length_toList
   have:0<es.length:=List.length_pos_iff.2 hes
   omega
  rw[run_bytesToString w _ _ cap ns (by rw[run_loadCells_ok g1 hsz,g3]),foldl_push_bytes]
  simp[ByteArray.empty,ByteArray.emptyWithCapacity]
  rfl
theorem op_convert_quiet {src dst:TypeId} {x:Operand} (h:Here E z n tick fr rt gh w FS a) (ho:o.op=.convert src dst x)
  (he:(evOp E call me (St.val fr) tick d ty0 (.convert src dst x)).run rt=some e)
  (hq:∀ s,St.val fr x=some (.v (.string s))→∀ i,E.ti dst=some i→i.elem=none):
  Says E z tick rt gh w FS d e (execOp a.eval o):=by
 simp only[evOp] at he
 obtain⟨t,h1,he1⟩:=run_bind he
 clear he
 have hx:=run_of h1
 clear h1
 obtain⟨k1,k2⟩:=h.frame.val hx
 split at he1
 ·rename_i s
  obtain⟨i,h2,he2⟩:=run_bind he1
  rw[hq s hx i (run_of h2)] at he2
  have:=plain_ok (d:=d) h he2
  simpa only[execOp,ho,okX_v.1 k1] using this
 ·rename_i e' es
  obtain⟨bs,h2,he2⟩:=run_bind he1
  split at he2
  ·rename_i hu
   simp only[Rd.run,Option.some.injEq] at he2;subst he2
   have k1':okV (szOf E) w.heap (Inow z w (FS++[])) (.sl e' es) (a.eval x) []:=k1
   simp only[okV,true_and] at k1'
   obtain⟨ad,cap,hv,_,r1⟩:=k1'
   refine says_quiet h (u:=.string ⟨bs.toArray⟩) ?_ (okX_v.2 rfl) trivial
   simp only[execOp,ho,hv,Sem.run_bind]
   rw[convert_bytes (w:=w) hu (run_of h2) (by
    rcases r1 with r1 | ⟨b,o',arr,el,fz,q1,q2,q3,q4⟩
    ·exact .inl r1
    ·exact .inr ⟨b,o',arr,el,fz,_,_,_,q1,q3,q4⟩)]
   rfl
  ·simp[Rd.run] at he2
 ·rename_i d' ver path c nn
  obtain⟨⟨e',es⟩,h2,he2⟩:=run_bind he1
  obtain⟨bs,h3,he3⟩:=run_bind he2
  split at he3
  ·rename_i hu
   simp only[Rd.run,Option.some.injEq] at he3;subst he3
   obtain⟨k0,k1⟩:=k1
   obtain⟨f,r1,r2,r3⟩:=h.heap.content k1 h2
   refine says_quiet h (u:=.string ⟨bs.toArray⟩) ?_ (okX_v.2 rfl) trivial
   simp only[okV] at r1
   rcases r1 with⟨rfl,_,ad,hv⟩ | ⟨b,o',cap,arr,el,fz,fs',hv,q1,q2,q3,q4,_,q5⟩
   ·simp only[execOp,ho,hv,Sem.run_bind]
    have:=convert_bytes (w:=w) (es:=[]) (ad:=ad) (cap:=0) hu (run_of h3) (.inl rfl)
    simp only[List.length_nil] at this
    rw[this]
    rfl
   ·simp only[execOp,ho,hv,Sem.run_bind]
    rw[convert_bytes (w:=w) hu (run_of h3) (.inr ⟨b,o',arr,el,fz,_,_,_,rfl,q2,q5⟩)]
    rfl
  ·simp[Rd.run] at he3
 ·rename_i v _
  have:=plain_ok (d:=d) h he1
  simpa only[execOp,ho,okX_v.1 k1] using this
 ·simp[Rd.run] at he1
theorem op_makeFunc {f:FuncId} {first caps:Array Operand} (h:Here E z n tick fr rt gh w FS a) (ho:o.op=.makeFunc (.func f) first caps)
  (he:(evOp E call me (St.val fr) tick d ty0 (.makeFunc (.func f) first caps)).run rt=some e):
  Says E z tick rt gh w FS d e (execOp a.eval o):=by
 simp only[evOp] at he
 split at he
 ·rename_i hf
  obtain⟨ts,h1,he1⟩:=run_bind he
  obtain⟨k1,k2⟩:=args_ok h.frame h1
  split at he1
  ·rename_i hall
   simp only[List.all_eq_true] at hall
   simp only[Rd.run,Option.some.injEq] at he1;subst he1
   refine says_quiet h (u:=.func (.func f) #[] (caps.map a.eval)) ?_ ⟨(caps.toList.map a.eval),?_,?_⟩ ?_
   ·have:first=#[]:=by simpa using hf
    simp only[execOp,ho,Instr.makeFunc,this,Array.map_empty]
    rfl
   ·rw[←Array.toList_map]
   ·refine k1.imp fun t u ht hk=>?_
    have h3:=hall t ht
    cases t<;>first | exact hk | (simp[cap1] at h3;done)
   ·intro t ht
    have h1:=hall t ht
    have h2:=k2 t ht
    cases t<;>first | exact h2 | (simp[cap1] at h1;done)
  ·simp[Rd.run] at he1
 ·simp[Rd.run] at he
theorem sliceLen_ok {x:Cx} {t:T} {m:Nat} {u:Value} (h:sliceLen t=some m) (hk:okX x t u):∃ ad cap,u=.slice ad m cap:=by
 unfold sliceLen at h
 split at h
 ·simp only[Option.some.injEq] at h;subst h
  have k1':okV x.sz x.h x.I (.hdr _) u []:=hk
  simp only[okV,true_and] at k1'
  exact k1'
 ·simp only[Option.some.injEq] at h;subst h
  obtain⟨⟨ad,cap,hv⟩,_⟩:=hk
  exact⟨ad,cap,hv⟩
 ·rename_i e es
  simp only[Option.some.injEq] at h;subst h
  have k1':okV x.sz x.h x.I (.sl e es) u []:=hk
  simp only[okV,true_and] at k1'
  obtain⟨ad,cap,hv,_,r1⟩:=k1'
  exact⟨ad,cap,hv⟩
 ·simp only[Option.some.injEq] at h;subst h
  exact⟨none,0,okX_v.1 hk⟩
 ·simp at h
theorem execOp_builtin {c:Call} {b:Builtin} (ho:o.op=.call c) (hc:c.callee=.builtin b) (w:World):
  ∃ cs,(execOp a.eval o).run E.P w=(builtin b c.argTypes o.type cs (c.args.map a.eval)).run E.P w:=by
 refine⟨c.args.map fun | .const _=>true | _=>false,?_⟩
 simp only[execOp,ho,resolve,hc,Sem.run_bind,Sem.run_pure,Result.andThen_ok,invoke]
 rfl
theorem op_len {c:Call} (ht:TiOk E) (h:Here E z n tick fr rt gh w FS a) (ho:o.op=.call c) (hc:c.callee=.builtin .len)
  (he:(evOp E call me (St.val fr) tick d ty0 (.call c)).run rt=some e):
  Says E z tick rt gh w FS d e (execOp a.eval o):=by
 simp only[evOp,hc] at he
 obtain⟨ts,h1,he1⟩:=run_bind he
 obtain⟨k1,k2⟩:=args_ok h.frame h1
 clear he
 unfold Says
 obtain⟨cs,hcs⟩:=execOp_builtin (a:=a) (E:=E) ho hc w
 rw[hcs]
 split at he1
 ·rename_i t
  obtain⟨u,us,q1,q2,q3⟩:=k1
  simp only[All2] at q3;subst q3
  have ha:c.args.map a.eval=#[u]:=by rw[←Array.toList_inj,Array.toList_map,q1]
  rw[ha]
  split at he1
  ·rename_i m hm
   obtain⟨i,h2,he2⟩:=run_bind he1
   split at he2
   ·rename_i hi
    simp only[Rd.run,Option.some.injEq] at he2;subst he2
    obtain⟨ad,cap,rfl⟩:=sliceLen_ok hm q2
    obtain⟨el,hel⟩:=Option.isSome_iff_exists.1 hi
    obtain⟨t0,g1,g3⟩:=Option.bind_eq_some_iff.1 (run_of h2)
    have g2:=(ht _ _ g3).elem el hel
    have:(builtin .len c.argTypes o.type cs #[Value.slice ad m cap]).run E.P w=.ok (.value (.int .i64 m)) w:=by
     simp[builtin,Builtin.len_,g1,run_underlying g2,goInt]
    rw[this]
    exact h.done_val
   ·simp[Rd.run] at he2
  ·obtain⟨v,h2,he2⟩:=run_bind he1
   have hv:=toVal_ok (run_of h2) q2
   subst hv
   have:=plain_ok (d:=d) h he2
   exact this
 ·simp[Rd.run] at he1
theorem op_minmax {c:Call} {b:Builtin} {f:Array TypeId→TypeId→Array Value→Sem Value} (h:Here E z n tick fr rt gh w FS a) (ho:o.op=.call c) (hc:c.callee=.builtin b)
  (hf:∀ ty cs vs,Go.builtin b c.argTypes ty cs vs=(do pure (.value (← f c.argTypes ty0 vs)):Sem Next))
  (he:((args (St.val fr) c.args.toList).bind fun ts=>(Rd.of (valsOf ts)).bind fun xs=>plainEff E (f c.argTypes ty0 xs.toArray)).run rt=some e):
  Says E z tick rt gh w FS d e (execOp a.eval o):=by
 obtain⟨ts,h1,he1⟩:=run_bind he
 obtain⟨xs,h2,he2⟩:=run_bind he1
 obtain⟨k1,k2⟩:=args_ok h.frame h1
 have hx:=valsOf_X (run_of h2) k1
 unfold Says
 obtain⟨cs,hcs⟩:=execOp_builtin (a:=a) (E:=E) ho hc w
 rw[hcs,hf]
 have ha:c.args.map a.eval=xs.toArray:=by rw[←hx,←Array.toList_inj,Array.toList_map]
 rw[ha]
 exact plain_ok (d:=d) h he2
theorem bound_ok {x:Cx} {S:Nat→Nat→Prop} {nn:Nat} {rt:List (Nat×Root)} (f:FRel x S nn fr a) {lo:Option Operand} {ts:List T} {dflt l:Int} (h:(args (St.val fr) lo.toList).run rt=some ts)
  (hb:boundOf ts dflt=some l):(lo=none∧l=dflt)∨∃ xo k,lo=some xo∧a.eval xo=.int k l:=by
 cases lo with
 | none=>
  simp only[Option.toList,args,Rd.run,Option.some.injEq] at h;subst h
  simp only[boundOf,Option.some.injEq] at hb
  exact .inl ⟨rfl,hb.symm⟩
 | some xo=>
  obtain⟨k1,k2⟩:=args_ok f h
  simp only[Option.toList,List.map_cons,List.map_nil] at k1
  cases ts with
  | nil=>simp[All2] at k1
  | cons t ts=>
   obtain⟨u,us,q1,q2,q3⟩:=k1
   simp only[List.cons.injEq] at q1
   simp only[boundOf] at hb
   obtain⟨k,hk⟩:=intArg_ok hb q2
   exact .inr ⟨xo,k,rfl,by rw[q1.1,hk]⟩
theorem okEs_drop {sz h I} {s:Nat}:∀ {es:List (List T)} {l} (k:Nat),okEs sz h I s es l []→okEs sz h I s (es.drop k) (l.drop (k*s)) []
 | es,l,0,hk=>by simpa using hk
 | [],l,k+1,hk=>by simp[okEs]
 | c::es,l,k+1,hk=>by
  simp only[okEs] at hk
  obtain⟨f1,f2,h0,hf,_,h1⟩:=hk
  obtain⟨rfl,rfl⟩:f1=[]∧f2=[]:=by simpa using hf.symm
  have:=okEs_drop k h1
  rw[List.drop_drop] at this
  have e1:s+k*s=(k+1)*s:=by rw[Nat.succ_mul];omega
  rw[e1] at this
  simpa using this
theorem okEs_take {sz h I} {s:Nat}:∀ {es:List (List T)} {l} (k:Nat),okEs sz h I s es l []→okEs sz h I s (es.take k) l []
 | es,l,0,hk=>by simp[okEs]
 | [],l,k+1,hk=>by simp[okEs]
 | c::es,l,k+1,hk=>by
  simp only[okEs,List.take_succ_cons] at hk ⊢
  obtain⟨f1,f2,h0,hf,h1,h2⟩:=hk
  obtain⟨rfl,rfl⟩:f1=[]∧f2=[]:=by simpa using hf.symm
  exact⟨[],[],h0,rfl,h1,okEs_take k h2⟩
theorem sliceBound_ok {P:Program} {k:IntKind} {i:Int} {y:Nat} {code:BoundsCode} (h0:0≤i) (h1:i≤y) (w:World):(Instr.sliceBound (.int k i) y code).run P w=.ok i.toNat w:=by
 simp[Instr.sliceBound,asIntOf,h0,h1]
theorem sliceBounds2 {P:Program} {lo hi:Option Value} {len cap:Nat} {l h:Int} (hl:(lo=none∧l=0)∨∃ k,lo=some (.int k l)) (hh:(hi=none∧h=len)∨∃ k,hi=some (.int k h))
  (h0:0≤l) (h1:l≤h) (h2:h≤len) (hc:len≤cap) (w:World):(Instr.sliceBounds true len cap lo hi none).run P w=.ok (l.toNat,h.toNat,cap) w:=by
 have e1:(match hi with | some v=>Instr.sliceBound v cap .sliceAcap | none=>(pure len:Sem Nat)).run P w=.ok h.toNat w:=by
  rcases hh with⟨rfl,rfl⟩ | ⟨k,rfl⟩
  ·simp
  ·exact sliceBound_ok (by omega) (by omega) w
 have e2:(match lo with | some v=>Instr.sliceBound v h.toNat .sliceB | none=>(pure 0:Sem Nat)).run P w=.ok l.toNat w:=by
  rcases hl with⟨rfl,rfl⟩ | ⟨k,rfl⟩
  ·simp
  ·exact sliceBound_ok h0 (by omega) w
 unfold Instr.sliceBounds
 cases hi<;>cases lo<;>simp_all [Sem.run_bind]
theorem szE (ht:TiOk E) {ty el:TypeId} {i:TInfo} (hi:E.ti ty=some i) (hel:i.elem=some el) (w:World):∃ m,(sizeOf el).run E.P w=.ok m w∧szOf E el=m:=by
 obtain⟨ie,hie⟩:=(ht _ _ hi).elemInfo el hel
 exact⟨ie.size,(ht _ _ hie).size w,by simp[szOf,hie]⟩
theorem okEs_rowsV {sz h I} {s:Nat}:∀ {rows:List (List Value)},(∀ r,r∈rows→r.length=s)→okEs sz h I s (rows.map (·.map T.v)) rows.flatten []
 | [],_=>by simp[okEs]
 | r::rows,hr=>by
  have h1:=hr r (by simp)
  simp only[List.map_cons,List.flatten_cons,okEs]
  refine⟨[],[],by simp[h1],rfl,?_,?_⟩
  ·rw[←h1,List.take_left]
   have:∀ l:List Value,okL sz h I (l.map T.v) l []:=by
    intro l
    induction l with
    | nil=>simp[okL]
    | cons x l ih=>simp only[List.map_cons,okL];exact⟨x,l,[],[],rfl,rfl,by simp[okV],ih⟩
   exact this r
  ·rw[←h1,List.drop_left,h1]
   exact okEs_rowsV fun r hq=>hr r (by simp[hq])
theorem run_isArr {P:Program} {ty e n:Nat} (h:pureRun P (isArr ty e n)=some true):P.underlying ty=some (.array n e):=by
 unfold isArr at h
 cases hu:P.underlying ty with
 | none=>simp[underlying,program,pureRun,Sem.bind,Bind.bind,hu,stuck] at h
 | some k=>
  cases k<;>simp[underlying,program,pureRun,Sem.bind,Bind.bind,Pure.pure,Sem.pure,hu] at h
  obtain⟨rfl,rfl⟩:=h
  rfl
theorem okEs_at {sz h I} {s:Nat}:∀ {rows:List (List Value)} {n:Nat} {r:List Value},(∀ r,r∈rows→r.length=s)→rows[n]?=some r→okL sz h I (r.map T.v) ((rows.flatten.drop (n*s)).take r.length) []
 | [],n,r,_,h=>by simp at h
 | q::rows,0,r,hr,h=>by
  simp only[List.getElem?_cons_zero,Option.some.injEq] at h
  subst h
  simp only[Nat.zero_mul,List.drop_zero,List.flatten_cons,List.take_left]
  have:∀ l:List Value,okL sz h I (l.map T.v) l []:=by
   intro l
   induction l with
   | nil=>simp[okL]
   | cons x l ih=>simp only[List.map_cons,okL];exact⟨x,l,[],[],rfl,rfl,by simp[okV],ih⟩
  exact this q
 | q::rows,n+1,r,hr,h=>by
  simp only[List.getElem?_cons_succ] at h
  have h1:=hr q (by simp)
  have h2:=okEs_at (sz:=sz) (h:=‹Array Obj›) (I:=I) (fun r hq=>hr r (by simp[hq])) h
  have e:(n+1)*s=q.length+n*s:=by rw[Nat.succ_mul,h1];omega
  rw[e,List.flatten_cons,←List.drop_drop,List.drop_left]
  exact h2
theorem op_indexAddr_glob {ty:TypeId} {x ix:Operand} {rows:List (List Value)} (ht:TiOk E) (h:Here E z n tick fr rt gh w FS a) (ho:o.op=.indexAddr ty x ix)
  (he:(evOp E call me (St.val fr) tick d ty0 (.indexAddr ty x ix)).run rt=some e) (hg:globRows E ty x=some rows):Says E z tick rt gh w FS d e (execOp a.eval o):=by
 simp only[evOp,hg] at he
 obtain⟨m,h2,he2⟩:=run_bind he
 obtain⟨ti0,q1,q2⟩:=Option.bind_eq_some_iff.1 (run_of h2)
 obtain⟨ik,hi⟩:=intArg_ok q2 (h.frame.val q1).1
 split at he2<;>try (simp[Rd.run] at he2;done)
 rename_i hm
 split at he2<;>try (simp[Rd.run] at he2;done)
 rename_i r hr
 simp only[Rd.run,Option.some.injEq] at he2
 subst he2
 cases x<;>simp only[globRows,reduceCtorEq] at hg
 rename_i g
 split at hg<;>try (simp at hg;done)
 rename_i p hp
 obtain⟨el,rows'⟩:=p
 split at hg<;>try (simp at hg;done)
 rename_i ie hie
 split at hg<;>try (simp at hg;done)
 rename_i hc
 obtain⟨c1,c2⟩:=hc
 simp only[Option.some.injEq] at hg
 subst hg
 have hu:=run_isArr c1
 dsimp only at hu c2 hr hie
 have hs:=(ht _ _ hie).size w
 obtain⟨g1,arr,elt,fz,g2,g3⟩:=h.heap.gok g _ (theArr_gl g el rows' hp)
 have hev:a.eval (.global g)=.pointer (some ⟨g,0,none⟩):=rfl
 have hlt:m.toNat<rows'.length:=by
  rcases Nat.lt_or_ge m.toNat rows'.length with h1 | h1
  ·exact h1
  ·rw[List.getElem?_eq_none h1] at hr;cases hr
 have hm2:m<(rows'.length:Int):=by omega
 have ha:(Instr.sureAddr (.pointer (some ⟨g,0,none⟩))).run E.P w=.ok ⟨g,0,none⟩ w:=by rfl
 have hrun:(execOp a.eval o).run E.P w=.ok (.value (.pointer (some ⟨g,0+m.toNat*ie.size,none⟩))) w:=by
  simp only[execOp,ho,hev,hi,Instr.indexAt,asIntOf,Sem.run_bind,Sem.run_pure,Result.andThen_ok,run_underlying hu]
  simp[Sem.run_bind,run_underlying hu,ha,hm,hm2,hs,addr_add]
 refine says_quiet h hrun (t:=.ipt (r.map T.v)) ?_ trivial
 show okV (szOf E) w.heap (Inow z w (FS++[])) (.ipt (r.map T.v)) _ []
 simp only[okV,true_and]
 refine⟨g,0+m.toNat*ie.size,arr,elt,fz,rfl,g1,g2,?_⟩
 rw[Nat.zero_add,g3,List.length_map]
 exact okEs_at (fun r hr=>by simpa using List.all_eq_true.1 c2 r hr) hr
theorem op_slice_glob {ty:TypeId} {x:Operand} {lo hi mx:Option Operand} {t:T} (ht:TiOk E) (h:Here E z n tick fr rt gh w FS a) (ho:o.op=.slice ty x lo hi mx)
  (he:(evOp E call me (St.val fr) tick d ty0 (.slice ty x lo hi mx)).run rt=some e) (hg:globOf E ty x lo hi mx=some t):Says E z tick rt gh w FS d e (execOp a.eval o):=by
 simp only[evOp,hg,Rd.run,Option.some.injEq] at he
 subst he
 cases x<;>simp only[globOf,reduceCtorEq] at hg
 rename_i g
 split at hg<;>try (simp at hg;done)
 rename_i hc
 obtain⟨c1,c2,c3⟩:=hc
 obtain rfl:lo=none:=by cases lo<;>simp at c1 ⊢
 obtain rfl:hi=none:=by cases hi<;>simp at c2 ⊢
 obtain rfl:mx=none:=by cases mx<;>simp at c3 ⊢
 split at hg<;>try (simp at hg;done)
 rename_i p hp
 obtain⟨el,rows⟩:=p
 split at hg<;>try (simp at hg;done)
 rename_i ie hie
 split at hg<;>try (simp at hg;done)
 rename_i hc
 obtain⟨c1,c2⟩:=hc
 simp only[Option.some.injEq] at hg
 subst hg
 have hu:=run_isArr c1
 have hs:=(ht _ _ hie).size w
 have hsz:szOf E el=ie.size:=by simp[szOf,hie]
 obtain⟨g1,arr,elt,fz,g2,g3⟩:=h.heap.gok g _ (theArr_gl g el rows hp)
 have hev:a.eval (.global g)=.pointer (some ⟨g,0,none⟩):=rfl
 have hb:(Instr.sliceBounds false rows.length rows.length none none none).run E.P w=.ok (0,rows.length,rows.length) w:=by simp[Instr.sliceBounds,Sem.run_bind]
 have hrun:(execOp a.eval o).run E.P w=.ok (.value (.slice (some ⟨g,0,none⟩) rows.length rows.length)) w:=by
  simp only[execOp,ho,hev,Instr.sliceAt,Option.map_none,Sem.run_bind,run_underlying hu,Result.andThen_ok]
  have hs':(sizeOf el).run E.P w=.ok ie.size w:=hs
  have ha:(Instr.sureAddr (.pointer (some ⟨g,0,none⟩))).run E.P w=.ok ⟨g,0,none⟩ w:=by rfl
  simp[Sem.run_bind,hb,hs',ha,Addr.add]
 refine says_quiet h hrun (t:=.sl el (rows.map (·.map T.v))) ?_ trivial
 show okV (szOf E) w.heap (Inow z w (FS++[])) (.sl el (rows.map (·.map T.v))) _ []
 simp only[okV,true_and]
 refine⟨_,rows.length,by rw[List.length_map],by rw[List.length_map];omega,.inr ⟨g,0,arr,elt,fz,rfl,g1,g2,?_⟩⟩
 rw[List.drop_zero,g3,hsz]
 exact okEs_rowsV fun r hr=>by simpa using List.all_eq_true.1 c2 r hr
theorem op_slice_quiet {ty:TypeId} {x:Operand} {lo hi mx:Option Operand} (ht:TiOk E) (h:Here E z n tick fr rt gh w FS a) (ho:o.op=.slice ty x lo hi mx)
  (he:(evOp E call me (St.val fr) tick d ty0 (.slice ty x lo hi mx)).run rt=some e) (hm:mx=none) (hg:globOf E ty x lo hi mx=none) (hnr:∀ d' ver path c n,St.val fr x≠some (.ref d' ver path c n)):
  Says E z tick rt gh w FS d e (execOp a.eval o):=by
 subst hm
 simp only[evOp,hg] at he
 obtain⟨t,h1,he1⟩:=run_bind he
 obtain⟨tl,h2,he2⟩:=run_bind he1
 obtain⟨th,h3,he3⟩:=run_bind he2
 obtain⟨tm,h4,he4⟩:=run_bind he3
 clear he he1 he2 he3
 have hx:=run_of h1
 clear h1
 obtain⟨k1,k2⟩:=h.frame.val hx
 simp only[Option.toList,args,Rd.run,Option.some.injEq] at h4;subst h4
 split at he4
 ·rename_i s
  obtain⟨lo',g1,he5⟩:=run_bind he4
  obtain⟨hi',g2,he6⟩:=run_bind he5
  simp only[List.isEmpty_nil,if_true] at he6
  obtain⟨q1,_⟩:=args_ok h.frame h2
  obtain⟨q2,_⟩:=args_ok h.frame h3
  have r1:=valsOf_X (run_of g1) q1
  have r2:=valsOf_X (run_of g2) q2
  have e1:lo.map a.eval=lo'.head?:=by rw[←r1];cases lo<;>rfl
  have e2:hi.map a.eval=hi'.head?:=by rw[←r2];cases hi<;>rfl
  have:=plain_ok (d:=d) h he6
  simpa only[execOp,ho,okX_v.1 k1,e1,e2,Option.map_none] using this
 ·rename_i el es
  obtain⟨i,g1,he5⟩:=run_bind he4
  obtain⟨l,g2,he6⟩:=run_bind he5
  obtain⟨hh,g3,he7⟩:=run_bind he6
  clear he4 he5 he6
  split at he7
  ·simp[Rd.run] at he7
  ·rename_i hel
   simp only[ne_eq,Decidable.not_not] at hel
   have hu:=(ht _ _ (run_of g1)).elem el hel
   obtain⟨inf,zz,i1,i2,_⟩:=(ht _ _ (run_of g1)).info
   have k1':okV (szOf E) w.heap (Inow z w (FS++[])) (.sl el es) (a.eval x) []:=k1
   simp only[okV,true_and] at k1'
   obtain⟨ad,cap,hv,hcap,r1⟩:=k1'
   split at he7
   ·rename_i hc
    obtain⟨_,c1,c2,c3⟩:=hc
    simp only[Rd.run,Option.some.injEq] at he7;subst he7
    have hl:(lo.map a.eval=none∧l=0)∨∃ k,lo.map a.eval=some (.int k l):=by
     rcases bound_ok h.frame h2 (run_of g2) with⟨rfl,rfl⟩ | ⟨xo,k,rfl,hk⟩
     ·exact .inl ⟨rfl,rfl⟩
     ·exact .inr ⟨k,by simp[hk]⟩
    have hhi:(hi.map a.eval=none∧hh=es.length)∨∃ k,hi.map a.eval=some (.int k hh):=by
     rcases bound_ok h.frame h3 (run_of g3) with⟨rfl,rfl⟩ | ⟨xo,k,rfl,hk⟩
     ·exact .inl ⟨rfl,rfl⟩
     ·exact .inr ⟨k,by simp[hk]⟩
    have hb:=sliceBounds2 (P:=E.P) hl hhi c1 c2 c3 hcap w
    obtain⟨m,hm⟩:=szE ht (run_of g1) hel w
    have hrun:(execOp a.eval o).run E.P w=.ok (.value (.slice (if cap=l.toNat then ad else ad.map (·.add (l.toNat*m))) (hh.toNat - l.toNat) (cap - l.toNat))) w:=by
     simp only[execOp,ho,hv,Instr.sliceAt,Option.map_none,Sem.run_bind,run_underlying hu,Result.andThen_ok,Instr.slice,hb,hm.1]
     rfl
    have hlen:((es.drop l.toNat).take (hh.toNat - l.toNat)).length=hh.toNat - l.toNat:=by
     rw[List.length_take,List.length_drop];omega
    refine says_quiet h hrun (t:=.sl el ((es.drop l.toNat).take (hh.toNat - l.toNat))) ?_ trivial
    show okV (szOf E) w.heap (Inow z w (FS++[])) (.sl el ((es.drop l.toNat).take (hh.toNat - l.toNat))) _ []
    simp only[okV,true_and]
    refine⟨_,cap - l.toNat,by rw[hlen],by rw[hlen];omega,?_⟩
    by_cases hemp:(es.drop l.toNat).take (hh.toNat - l.toNat)=[]
    ·exact .inl hemp
    ·right
     have hpos:0<((es.drop l.toNat).take (hh.toNat - l.toNat)).length:=List.length_pos_iff.2 hemp
     rw[hlen] at hpos
     rcases r1 with rfl | ⟨b,o',arr,elt,fz,rfl,q1,q2,q3⟩
     ·simp at hemp
     ·refine⟨b,o'+l.toNat*szOf E el,arr,elt,fz,?_,q1,q2,?_⟩
      ·rw[if_neg (by omega),hm.2]
       simp only[Option.map_some,addr_add]
      ·have:=okEs_take (hh.toNat - l.toNat) (okEs_drop l.toNat q3)
       rwa[List.drop_drop] at this
   ·split at he7
    ·rename_i hc
     obtain⟨_,c1,_,_,c4⟩:=hc
     simp only[boundOf,Option.some.injEq] at c4
     omega
    ·simp[Rd.run] at he7
 ·obtain⟨lo',g1,he5⟩:=run_bind he4
  obtain⟨hi',g2,he6⟩:=run_bind he5
  simp only[List.isEmpty_nil,if_true] at he6
  obtain⟨q1,_⟩:=args_ok h.frame h2
  obtain⟨q2,_⟩:=args_ok h.frame h3
  have r1:=valsOf_X (run_of g1) q1
  have r2:=valsOf_X (run_of g2) q2
  have e1:lo.map a.eval=lo'.head?:=by rw[←r1];cases lo<;>rfl
  have e2:hi.map a.eval=hi'.head?:=by rw[←r2];cases hi<;>rfl
  have:=plain_ok (d:=d) h he6
  simpa only[execOp,ho,okX_v.1 k1,e1,e2,Option.map_none] using this
 ·exact absurd hx (hnr _ _ _ _ _)
 ·simp[Rd.run] at he4
end quiet
end Go.TM
