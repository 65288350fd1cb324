/- What functions of the program come to, by the machine. -/
import Derived.Test.YtlmiemdojgahaaaGreatSL10
import Derived.Test.YtlmiemdojgahaaaGreatTm4
import Derived.Test.YtlmiemdojgahaaaGreatSL9
import Derived.Test.YtlmiemdojgahaaaGreatSL11
import Derived.Test.YtlmiemdojgahaaaGreatSL13
import Derived.Test.YtlmiemdojgahaaaGreatSL8
import Derived.Test.YtlmiemdojgahaaaGreatSL7
import Derived.Test.YtlmiemdojgahaaaGreatSL12
set_option linter.unusedSimpArgs false
set_option linter.unusedVariables false
namespace Go.TM.Ft
open Go Go.TM Go.Proofs
set_option maxRecDepth 20000
attribute [local congr] gif_cg
attribute [local simp] footOf noClash clash upsets setsHit setHits layHits layMeets setsMeet evFeet
structure FitD (d:Desk):Prop where
 eng:FitE d.eng
 claims:d.claims.length < 2 ^ 62
theorem fw_step {s:Step} (h:FitS s):FwStep s:=⟨h.name,h.cond,h.expr⟩
theorem fw_proc {p:List Step} (h:FitP p):FwProc p:=⟨h.len,fun s hs=>fw_step (h.steps s hs)⟩
theorem fw_chart {c:Chart} (h:FitC c):FwChart c:=⟨h.vars,h.acts,h.dues⟩
theorem fw_engine {e:Engine} (h:FitE e):FwEngine e:=⟨⟨h.np,fun p hp=>fw_proc (h.procs p hp)⟩,⟨h.ni,fun x hx=>fw_chart (h.insts x hx)⟩⟩
theorem fw_desk {d:Desk} (h:FitD d):FwDesk d:=⟨fw_engine h.eng,h.claims⟩
theorem tree_int {n:Nat} {ts:List T} (h:TreeT Tryz.prog (n+1) 2 ts):∃ x,ts=[vI x]∧-9223372036854775808≤x∧x < 9223372036854775808:=by
 unfold TreeT at h
 rw [Tryz.underlying2] at h
 obtain ⟨x,rfl,hw⟩:=h
 have:=bounds_i64 hw
 exact ⟨x,rfl,by omega,by omega⟩
theorem map_of {α β:Type} {f:α→β} {p:α→Prop}:∀ {l:List β},(∀ c,c∈l→∃ x,c=f x∧p x)→∃ xs:List α,l=xs.map f∧∀ x,x∈xs→p x
 | [],_=>⟨[],rfl,fun x hx=>by simp at hx⟩
 | c::l,h=>by
  obtain ⟨x,rfl,hx⟩:=h c (by simp)
  obtain ⟨xs,rfl,hxs⟩:=map_of (f:=f) (p:=p) (l:=l) fun d hd=>h d (by simp [hd])
  exact ⟨x::xs,rfl,fun y hy=>by
   rcases List.mem_cons.1 hy with rfl | hy
   ·exact hx
   ·exact hxs y hy⟩
theorem tree_slice {α:Type} {P:Program} {n:Nat} {t e:TypeId} {ts:List T} {f:α→List T} {p:α→Prop} (hu:P.underlying t=some (.slice e)) (h:TreeT P (n+1) t ts)
  (hx:∀ c,TreeT P n e c→∃ x,c=f x∧p x):∃ l:List α,ts=[.sl e (l.map f)]∧l.length < 2 ^ 62∧∀ x,x∈l→p x:=by
 unfold TreeT at h
 rw [hu] at h
 obtain ⟨es,rfl,hl,h2⟩:=h
 obtain ⟨xs,rfl,hp⟩:=map_of (f:=f) (p:=p) (l:=es) fun c hc=>hx c (h2 c hc)
 refine ⟨xs,rfl,?_,hp⟩
 simp at hl; unfold reachBytes at hl; omega
theorem tree_node {n:Nat} {ts:List T} (h:TreeT Tryz.prog (n+2) 267 ts):∃ x,ts=nT x∧True:=by
 unfold TreeT at h
 rw [Tryz.underlying267] at h
 obtain ⟨c1,r1,rfl,h1,c2,r2,rfl,h2,c3,r3,rfl,h3,c4,r4,rfl,h4,rfl⟩:=h
 obtain ⟨x1,rfl,_⟩:=tree_int h1
 obtain ⟨x2,rfl,_⟩:=tree_int h2
 obtain ⟨x3,rfl,_⟩:=tree_int h3
 obtain ⟨x4,rfl,_⟩:=tree_int h4
 exact ⟨⟨x1,x2,x3,x4⟩,rfl,trivial⟩
theorem tree_step {n:Nat} {ts:List T} (h:TreeT Tryz.prog (n+4) 111 ts):∃ s:Step,ts=sT 267 s∧FitS s:=by
 unfold TreeT at h
 rw [Tryz.underlying111] at h
 obtain ⟨c1,r1,rfl,h1,c2,r2,rfl,h2,c3,r3,rfl,h3,c4,r4,rfl,h4,c5,r5,rfl,h5,c6,r6,rfl,h6,rfl⟩:=h
 obtain ⟨x1,rfl,_⟩:=tree_int h1
 obtain ⟨x2,rfl,p1,p2⟩:=tree_int h2
 obtain ⟨x4,rfl,_⟩:=tree_int h4
 obtain ⟨x5,rfl,l5,_⟩:=tree_slice (f:=nT) (p:=fun _=>True) Tryz.underlying109 h5 fun c hc=>tree_node hc
 obtain ⟨x6,rfl,l6,_⟩:=tree_slice (f:=nT) (p:=fun _=>True) Tryz.underlying109 h6 fun c hc=>tree_node hc
 simp only at h3
 unfold TreeT at h3
 rw [Tryz.underlying9] at h3
 obtain ⟨x3,rfl,l3⟩:=h3
 exact ⟨⟨x1,x2,x3,x4,x5,x6⟩,rfl,p1,p2,by unfold reachBytes at l3; simp; omega,l5,l6⟩
theorem tree_proc {n:Nat} {ts:List T} (h:TreeT Tryz.prog (n+6) 225 ts):∃ p:List Step,ts=pT 111 267 p∧FitP p:=by
 unfold TreeT at h
 rw [Tryz.underlying225] at h
 obtain ⟨c1,r1,rfl,h1,rfl⟩:=h
 obtain ⟨l,rfl,hl,hf⟩:=tree_slice (f:=sT 267) (p:=FitS) Tryz.underlying22 h1 fun c hc=>tree_step hc
 exact ⟨l,rfl,hl,hf⟩
theorem tree_ints {n:Nat} {ts:List T} (h:TreeT Tryz.prog (n+2) 23 ts):∃ l:List Int,ts=[iS l]∧l.length < 2 ^ 62:=by
 obtain ⟨l,rfl,hl,_⟩:=tree_slice (f:=fun n=>[vI n]) (p:=fun _=>True) Tryz.underlying23 h fun c hc=>by
  obtain ⟨x,rfl,_⟩:=tree_int hc
  exact ⟨x,rfl,trivial⟩
 exact ⟨l,rfl,hl⟩
theorem tree_chart {n:Nat} {ts:List T} (h:TreeT Tryz.prog (n+3) 227 ts):∃ c:Chart,ts=cT c∧FitC c:=by
 unfold TreeT at h
 rw [Tryz.underlying227] at h
 obtain ⟨c1,r1,rfl,h1,c2,r2,rfl,h2,c3,r3,rfl,h3,c4,r4,rfl,h4,c5,r5,rfl,h5,rfl⟩:=h
 obtain ⟨x1,rfl,_⟩:=tree_int h1
 obtain ⟨x2,rfl,_⟩:=tree_int h2
 obtain ⟨x3,rfl,l3⟩:=tree_ints h3
 obtain ⟨x4,rfl,l4⟩:=tree_ints h4
 obtain ⟨x5,rfl,l5⟩:=tree_ints h5
 exact ⟨⟨x1,x2,x3,x4,x5⟩,rfl,l3,l4,l5⟩
theorem tree_inst {n:Nat} {ts:List T} (h:TreeT Tryz.prog (n+4) 229 ts):∃ x:Inst,ts=xT x∧FitC x.chart:=by
 unfold TreeT at h
 rw [Tryz.underlying229] at h
 obtain ⟨c1,r1,rfl,h1,c2,r2,rfl,h2,rfl⟩:=h
 obtain ⟨x1,rfl,_⟩:=tree_int h1
 obtain ⟨x2,rfl,f2⟩:=tree_chart h2
 exact ⟨⟨x1,x2⟩,rfl,f2⟩
theorem tree_claim {n:Nat} {ts:List T} (h:TreeT Tryz.prog (n+2) 222 ts):∃ x:Claim,ts=kT x∧True:=by
 unfold TreeT at h
 rw [Tryz.underlying222] at h
 obtain ⟨c1,r1,rfl,h1,c2,r2,rfl,h2,c3,r3,rfl,h3,rfl⟩:=h
 obtain ⟨x1,rfl,_⟩:=tree_int h1
 obtain ⟨x2,rfl,_⟩:=tree_int h2
 obtain ⟨x3,rfl,_⟩:=tree_int h3
 exact ⟨⟨x1,x2,x3⟩,rfl,trivial⟩
theorem tree_engine {n:Nat} {ts:List T} (h:TreeT Tryz.prog (n+8) 51 ts):∃ e:Engine,ts=eTl e∧FitE e:=by
 unfold TreeT at h
 rw [Tryz.underlying51] at h
 obtain ⟨c1,r1,rfl,h1,c2,r2,rfl,h2,c3,r3,rfl,h3,rfl⟩:=h
 obtain ⟨x1,rfl,l1,f1⟩:=tree_slice (f:=pT 111 267) (p:=FitP) Tryz.underlying48 h1 fun c hc=>tree_proc hc
 obtain ⟨x2,rfl,l2,f2⟩:=tree_slice (f:=xT) (p:=fun x=>FitC x.chart) Tryz.underlying49 h2 fun c hc=>tree_inst hc
 obtain ⟨x3,rfl,_⟩:=tree_int h3
 exact ⟨⟨x1,x2,x3⟩,rfl,l1,l2,f1,f2⟩
end Go.TM.Ft
namespace Go.TM.Ft
open Go Go.TM Go.Proofs
set_option maxRecDepth 20000
attribute [local congr] gif_cg
attribute [local simp] footOf noClash clash upsets setsHit setHits layHits layMeets setsMeet evFeet seal4_iE seal4_set clean_iE
end Go.TM.Ft
namespace Go.TM.Ft
open Go Go.TM Go.Proofs
theorem sum_mem {α:Type} (w:α→Nat) (s:List α→Nat) (h0:∀ x r,s (x::r)=w x+s r):∀ {l:List α} {x:α},x∈l→w x≤s l
 | [],x,h=>by simp at h
 | y::l,x,h=>by
  rw [h0]
  rcases List.mem_cons.1 h with rfl | h
  ·omega
  ·have:=sum_mem w s h0 h; omega
theorem smE_of {e:Engine} (h:wEngine e≤1048576):SmE e:=by
 have h1:wsProc e.procs≤1048576:=by simp only [wEngine] at h; omega
 have h2:wsInst e.insts≤1048576:=by simp only [wEngine] at h; omega
 refine ⟨by simp only [wsProc] at h1; omega,by simp only [wsInst] at h2; omega,fun p hp=>?_,fun x hx=>?_⟩
 ·have hw:wProc p≤1048576:=by
   have:=sum_mem wProc sumProc (fun _ _=>rfl) hp
   simp only [wsProc] at h1; omega
  simp only [wProc,wsStep] at hw
  refine ⟨by omega,fun s hs=>?_⟩
  have:=sum_mem wStep sumStep (fun _ _=>rfl) hs
  simp only [wStep] at this
  exact ⟨by omega,by omega⟩
 ·have hw:wInst x≤1048576:=by
   have:=sum_mem wInst sumInst (fun _ _=>rfl) hx
   simp only [wsInst] at h2; omega
  simp only [wInst,wChart] at hw
  exact ⟨by omega,by omega,by omega⟩
end Go.TM.Ft
namespace Go.TM.Ft
open Go Go.TM Go.Proofs
theorem smD_of {d:Desk} (h:wDesk d≤1048576):SmD d:=⟨smE_of (by simp only [wDesk] at h; omega),by simp only [wDesk] at h; omega⟩
end Go.TM.Ft
namespace Go.TM.Ft
open Go Go.TM Go.Proofs
abbrev wTl (w:World):List T:=[.sl 225 (w.desk.eng.procs.map (pT 111 267)),.sl 229 (w.desk.eng.insts.map xT),vI w.desk.eng.now,.sl 222 (w.desk.claims.map kT),yS w.jour.sure,yS w.jour.loose]
end Go.TM.Ft
namespace Go.TM.Ft
open Go Go.TM Go.Proofs
set_option maxRecDepth 20000
attribute [local congr] gif_cg
attribute [local simp] footOf noClash clash upsets setsHit setHits layHits layMeets setsMeet evFeet
def wJournal (x:Journal):Nat:=x.sure.length+x.loose.length
def FwJournal (x:Journal):Prop:=x.sure.length < 2 ^ 62∧x.loose.length < 2 ^ 62
def wWorld (x:World):Nat:=wDesk x.desk+wJournal x.jour
def FwWorld (x:World):Prop:=FwDesk x.desk∧FwJournal x.jour
theorem g_szbyteS (l:List UInt8) (left:Int) (h0:0≤left) (h1:left≤1048576) (hl:l.length < 2 ^ 62):fo 207 [A (.sl 5 (l.map yV)),A (vI left)]=some (R (vI (subM left l.length))):=by
 have hw:IntKind.i64.wrap (left - l.length)=left - l.length:=by rw [wrapI] <;> omega
 refine orc_207 1 ?_
 simp (maxSteps:=1000000) +contextual -dsimp [Tryz.f207,subM,hw]
theorem g_szJournal (x:Journal) (left:Int) (h0:0≤left) (h1:left≤1048576) (hf:FwJournal x):fo 137 [A (.agg (jT x)),A (vI left)]=some (R (vI (subM left (wJournal x)))):=by
 unfold FwJournal at hf
 refine orc_137 1 ?_
 have g0:=g_szbyteS x.sure (left) (by omega) (by omega) hf.1
 cases c0:ltI (subM (left) (x.sure.length)) 0
 ·obtain ⟨p0,e0⟩:=sub_f c0
  rw [e0] at g0 c0
  have g1:=g_szbyteS x.loose (left - (x.sure.length:Nat)) (by omega) (by omega) hf.2
  cases c1:ltI (subM (left - (x.sure.length:Nat)) (x.loose.length)) 0
  ·obtain ⟨p1,e1⟩:=sub_f c1
   rw [e1] at g1 c1
   have hm:subM left (wJournal x)=left - (x.sure.length:Nat) - (x.loose.length:Nat):=by
    have:=subM_p (left:=left) (w:=wJournal x) (by simp only [wJournal]; omega)
    simp only [wJournal] at this ⊢; omega
   rw [hm]
   simp (maxSteps:=1000000) +contextual -dsimp [Tryz.f137,g0,g1,c0,c1]
  ·have n1:=sub_t (by omega) c1
   have hm:subM left (wJournal x)=-1:=subM_n (by simp only [wJournal]; omega)
   rw [hm]
   simp (maxSteps:=1000000) +contextual -dsimp [Tryz.f137,g0,g1,c0,c1]
 ·have n0:=sub_t (by omega) c0
  have hm:subM left (wJournal x)=-1:=subM_n (by simp only [wJournal]; omega)
  rw [hm]
  simp (maxSteps:=1000000) +contextual -dsimp [Tryz.f137,g0,c0]
theorem g_szWorld (x:World) (left:Int) (h0:0≤left) (h1:left≤1048576) (hf:FwWorld x):fo 55 [A (.agg (wTl x)),A (vI left)]=some (R (vI (subM left (wWorld x)))):=by
 unfold FwWorld at hf
 refine orc_55 1 ?_
 have g0:=g_szDesk x.desk (left) (by omega) (by omega) hf.1
 cases c0:ltI (subM (left) (wDesk x.desk)) 0
 ·obtain ⟨p0,e0⟩:=sub_f c0
  rw [e0] at g0 c0
  have g1:=g_szJournal x.jour (left - (wDesk x.desk:Nat)) (by omega) (by omega) hf.2
  cases c1:ltI (subM (left - (wDesk x.desk:Nat)) (wJournal x.jour)) 0
  ·obtain ⟨p1,e1⟩:=sub_f c1
   rw [e1] at g1 c1
   have hm:subM left (wWorld x)=left - (wDesk x.desk:Nat) - (wJournal x.jour:Nat):=by
    have:=subM_p (left:=left) (w:=wWorld x) (by simp only [wWorld]; omega)
    simp only [wWorld] at this ⊢; omega
   rw [hm]
   simp (maxSteps:=1000000) +contextual -dsimp [Tryz.f55,g0,g1,c0,c1]
  ·have n1:=sub_t (by omega) c1
   have hm:subM left (wWorld x)=-1:=subM_n (by simp only [wWorld]; omega)
   rw [hm]
   simp (maxSteps:=1000000) +contextual -dsimp [Tryz.f55,g0,g1,c0,c1]
 ·have n0:=sub_t (by omega) c0
  have hm:subM left (wWorld x)=-1:=subM_n (by simp only [wWorld]; omega)
  rw [hm]
  simp (maxSteps:=1000000) +contextual -dsimp [Tryz.f55,g0,c0]
end Go.TM.Ft
namespace Go.TM.Ft
open Go Go.TM
structure WorldR where
 code:Int
 reply:Int
 value:Int
 world:World
abbrev wrT (p:WorldR):List T:=[vI p.code,vI p.reply,vI p.value,.sl 160 (p.world.desk.eng.procs.map (pT 124 219)),.sl 163 (p.world.desk.eng.insts.map xT),vI p.world.desk.eng.now,.sl 150 (p.world.desk.claims.map kT),yS p.world.jour.sure,yS p.world.jour.loose]
def wWorldResult (x:WorldR):Nat:=wWorld x.world
end Go.TM.Ft
namespace Go.TM.Ft
open Go Go.TM Go.Proofs
set_option maxRecDepth 20000
attribute [local congr] gif_cg
attribute [local simp] footOf noClash clash upsets setsHit setHits layHits layMeets setsMeet evFeet
abbrev JournalO (x:Journal):List T:=[.own 5 (x.sure.map yV),.own 5 (x.loose.map yV)]
abbrev WorldO (x:World):List T:=[.own 160 (x.desk.eng.procs.map ProcO),.own 163 (x.desk.eng.insts.map InstO),vI x.desk.eng.now,.own 150 (x.desk.claims.map kT),.own 5 (x.jour.sure.map yV),.own 5 (x.jour.loose.map yV)]
abbrev WorldResultO (x:WorldR):List T:=[vI x.code,vI x.reply,vI x.value,.own 160 (x.world.desk.eng.procs.map ProcO),.own 163 (x.world.desk.eng.insts.map InstO),vI x.world.desk.eng.now,.own 150 (x.world.desk.claims.map kT),.own 5 (x.world.jour.sure.map yV),.own 5 (x.world.jour.loose.map yV)]
end Go.TM.Ft
namespace Go.TM.Ft
open Go Go.TM Go.Proofs
set_option maxRecDepth 20000
attribute [local congr] gif_cg
attribute [local simp] footOf noClash clash upsets setsHit setHits layHits layMeets setsMeet evFeet
theorem leqbyteS (all:List UInt8) (hall:all.length≤2097152):∀ (rest:List UInt8) (i:Nat),all.drop i=rest→
  evLoop E (orc E) (214:Nat) (rest.length+1) (loopOf Tryz.f214 0) ⟨26,[(0,.sl 5 (all.map yV)),(1,.sl 5 (all.map yV)),(5,vI i)],[],2⟩=
  some (.exit 0,⟨26,[(0,.sl 5 (all.map yV)),(1,.sl 5 (all.map yV)),(5,vI (i+rest.length:Nat)),(14,vB false)],[],2⟩)
 | [],i,h=>by
  have hge:all.length≤i:=by simpa using h
  have hlt:ltI (i:Int) (all.length:Int)=false:=ltI_f (by omega)
  rw [loop_eq]
  simp +contextual -dsimp [Tryz.f214,hlt]
 | x::rest,i,h=>by
  obtain ⟨hi,hc,hr⟩:=drop_cons h
  have hlt:ltI (i:Int) (all.length:Int)=true:=ltI_t (by omega)
  have hw:IntKind.i64.wrap ((i:Int)+1)=((i+1:Nat):Int):=by rw [wrapI] <;> omega
  have ih:=leqbyteS all hall rest (i+1) hr
  have he:i+1+rest.length=i+(rest.length+1):=by omega
  rw [he] at ih
  refine evLoop_next ?_ (by simpa only [List.length_cons] using ih)
  simp (maxSteps:=1000000) +contextual -dsimp [Tryz.f214,hlt,hi,hc,hw,eqI_self]
theorem g_eqbyteS (l:List UInt8) (hl:l.length≤2097152):fo 214 [A (.sl 5 (l.map yV)),A (.sl 5 (l.map yV))]=some (R (vB true)):=by
 have hlp:=leqbyteS l hl l 0 rfl
 refine orc_214 (l.length+1) ?_
 simp -dsimp [Tryz.f214] at hlp
 simp (maxSteps:=1000000) +contextual -dsimp [Tryz.f214,hlp,eqI_self]
theorem g_eqJournal (x:Journal) (h:wJournal x≤2097152):fo 145 [A (.agg (jT x)),A (.agg (jT x))]=some (R (vB true)):=by
 have g0:=g_eqbyteS x.sure (by simp only [wJournal] at h; omega)
 have g1:=g_eqbyteS x.loose (by simp only [wJournal] at h; omega)
 refine orc_145 1 ?_
 simp (maxSteps:=1000000) +contextual -dsimp [Tryz.f145,g0,g1]
theorem g_eqWorld (x:World) (h:wWorld x≤2097152):fo 60 [A (.agg (wT x)),A (.agg (wT x))]=some (R (vB true)):=by
 have g0:=g_eqDesk x.desk (by simp only [wWorld] at h; omega)
 have g1:=g_eqJournal x.jour (by simp only [wWorld] at h; omega)
 refine orc_60 1 ?_
 simp (maxSteps:=1000000) +contextual -dsimp [Tryz.f60,g0,g1]
end Go.TM.Ft
namespace Go.TM.Ft
open Go Go.TM Go.Proofs
set_option maxRecDepth 20000
attribute [local congr] gif_cg
attribute [local simp] footOf noClash clash upsets setsHit setHits layHits layMeets setsMeet evFeet
set_option maxHeartbeats 4000000 in
theorem lp21t (d : Desk) (tl : List T) (hf : FitE d.eng) (h0 : engM d.eng = 0) (hcl : d.claims.length ≤ 60) : ∀ (rest : List Claim) (i : Nat), d.claims.drop i = rest →
    evLoop E (orc E) (151 : Nat) (rest.length + 1) (loopOf Tryz.f151 0) ⟨76, [(0, .ipt (.sl 160 (d.eng.procs.map (pT 124 219)) :: .sl 163 (d.eng.insts.map xT) :: vI d.eng.now :: .sl 150 (d.claims.map kT) :: tl)), (4, vI i)], [], 2⟩ =
    (if eqI (claimsM d i rest) 0 = true then some (.exit 0, ⟨76, [(0, .ipt (.sl 160 (d.eng.procs.map (pT 124 219)) :: .sl 163 (d.eng.insts.map xT) :: vI d.eng.now :: .sl 150 (d.claims.map kT) :: tl)), (4, vI (i + rest.length : Nat)), (25, vB false)], [], 2⟩)
     else some (.ret, ⟨76, [(2, vI (claimsM d i rest))], [], 2⟩))
  | [], i, h => by
    have hge : d.claims.length ≤ i := by simpa using h
    have hlt : ltI (i : Int) (d.claims.length : Int) = false := ltI_f (by omega)
    rw [loop_eq]
    simp +contextual -dsimp [Tryz.f151, hlt, claimsM, eqI_self]
  | x :: rest, i, h => by
    obtain ⟨hi, hc, hr⟩ := drop_cons h
    obtain ⟨n1, n2, n3⟩ := engM_zero h0
    have hlt : ltI (i : Int) (d.claims.length : Int) = true := ltI_t (by omega)
    have hw : IntKind.i64.wrap ((i : Int) + 1) = ((i + 1 : Nat) : Int) := by rw [wrapI] <;> omega
    have hwi : IntKind.i64.wrap ((d.eng.insts.length : Int) - 1) = (d.eng.insts.length : Int) - 1 := by rw [wrapI] <;> omega
    have he : i + 1 + rest.length = i + (rest.length + 1) := by omega
    have out : ∀ k : Int, claimM d i x = k → eqI k 0 = false → claimsM d i (x :: rest) = k := fun k h1 h2 => by simp [claimsM, h1, h2]
    cases q1 : inR x.inst 0 ((d.eng.insts.length : Int) - 1)
    · have h3 : claimM d i x = 3 := by simp [claimM, q1, notB, orB]
      have hm := out 3 h3 rfl
      have h30 : eqI (3 : Int) 0 = false := rfl
      rw [hm, h30, if_neg (by simp)]
      refine evLoop_out ?_ (by simp)
      simp (maxSteps := 1000000) +contextual -dsimp [Tryz.f151, hlt, hi, hc, hwi, f_l1In, q1, List.set]
    cases q2 : inR x.user 1 9
    · have h3 : claimM d i x = 3 := by simp [claimM, q1, q2, notB, orB]
      have hm := out 3 h3 rfl
      have h30 : eqI (3 : Int) 0 = false := rfl
      rw [hm, h30, if_neg (by simp)]
      refine evLoop_out ?_ (by simp)
      simp (maxSteps := 1000000) +contextual -dsimp [Tryz.f151, hlt, hi, hc, hwi, f_l1In, f_l12User, q1, q2, List.set]
    obtain ⟨b, hb, hbl⟩ : ∃ b : Nat, x.inst = b ∧ b < d.eng.insts.length := by
      simp [inR, andB, leI] at q1
      obtain ⟨k, hk⟩ := Int.eq_ofNat_of_zero_le q1.1
      exact ⟨k, hk, by omega⟩
    obtain ⟨a, ha, hx, e2, ok, hlen⟩ := (n3 (d.eng.insts[b]) (List.getElem_mem _)).at_
    have g1 := f_l12Open d.eng (.sl 150 (d.claims.map kT) :: tl) b hbl a hx ha (by have := ok.le; omega) hlen x.step
    rw [← hb] at g1
    have g2 := f_l12Ahead (clAt d.claims (i - 1)) x
    cases q3 : isOpenM d.eng x.inst x.step
    · have h3 : claimM d i x = 4 := by simp [claimM, q1, q2, q3, notB, orB]
      have hm := out 4 h3 rfl
      have h30 : eqI (4 : Int) 0 = false := rfl
      rw [hm, h30, if_neg (by simp)]
      refine evLoop_out ?_ (by simp)
      simp (maxSteps := 1000000) +contextual -dsimp [Tryz.f151, hlt, hi, hc, hwi, f_l1In, f_l12User, g1, q1, q2, q3, List.set]
    rcases Nat.eq_zero_or_pos i with hi0 | hi0
    · have hl0 : ltI 0 (i : Int) = false := ltI_f (by omega)
      have h3 : claimM d i x = 0 := by simp [claimM, q1, q2, q3, hl0, notB, orB, andB]
      have ih := lp21t d tl hf h0 hcl rest (i + 1) hr
      rw [he] at ih
      have hm : claimsM d i (x :: rest) = claimsM d (i + 1) rest := by simp [claimsM, h3, eqI_self]
      rw [hm]
      refine evLoop_next ?_ (by simpa only [List.length_cons] using ih)
      simp (maxSteps := 1000000) +contextual -dsimp [Tryz.f151, hlt, hi, hc, hw, hwi, f_l1In, f_l12User, g1, q1, q2, q3, hl0, List.set]
    · have hl0 : ltI 0 (i : Int) = true := ltI_t (by omega)
      have hi1 : i - 1 < d.claims.length := by omega
      have hw1 : IntKind.i64.wrap ((i : Int) - 1) = ((i - 1 : Nat) : Int) := by rw [wrapI] <;> omega
      have hcl1 : clAt d.claims (i - 1) = d.claims[i - 1] := by simp [clAt, hi1]
      rw [hcl1] at g2
      cases q4 : aheadM (d.claims[i - 1]) x
      · have h3 : claimM d i x = 1 := by simp [claimM, q1, q2, q3, hl0, hcl1, ahead_cmp, q4, notB, orB, andB]
        have hm := out 1 h3 rfl
        have h30 : eqI (1 : Int) 0 = false := rfl
        rw [hm, h30, if_neg (by simp)]
        refine evLoop_out ?_ (by simp)
        simp (maxSteps := 1000000) +contextual -dsimp [Tryz.f151, hlt, hi, hc, hwi, f_l1In, f_l12User, g1, g2, q1, q2, q3, q4, hl0, hi1, hw1, List.set]
      · have h3 : claimM d i x = 0 := by simp [claimM, q1, q2, q3, hl0, hcl1, ahead_cmp, q4, notB, orB, andB]
        have ih := lp21t d tl hf h0 hcl rest (i + 1) hr
        rw [he] at ih
        have hm : claimsM d i (x :: rest) = claimsM d (i + 1) rest := by simp [claimsM, h3, eqI_self]
        rw [hm]
        refine evLoop_next ?_ (by simpa only [List.length_cons] using ih)
        simp (maxSteps := 1000000) +contextual -dsimp [Tryz.f151, hlt, hi, hc, hw, hwi, f_l1In, f_l12User, g1, g2, q1, q2, q3, q4, hl0, hi1, hw1, List.set]
theorem f_l12FaultT (d:Desk) (tl:List T) (hf:FitE d.eng) (hc:d.claims.length < 2 ^ 62):fo 151 [A (.ipt (.sl 160 (d.eng.procs.map (pT 124 219))::.sl 163 (d.eng.insts.map xT)::vI d.eng.now::.sl 150 (d.claims.map kT)::tl))]=some (R (vI (deskM d))):=by
 have g1:=f_l11Fault d.eng (.sl 150 (d.claims.map kT)::tl) hf
 rw [eng_same] at g1
 unfold deskM deskA
 refine orc_151 (d.claims.length+1) ?_
 cases q1:eqI (engM d.eng) 0
 ·simp (maxSteps:=1000000) +contextual -dsimp [Tryz.f151,g1,q1,first2]
 ·have e0:engM d.eng=0:=by simpa [eqI] using q1
  cases q2:ltI 60 d.claims.length
  ·have hlp:=lp21t d tl hf e0 (by simp [ltI] at q2; omega) d.claims 0 rfl
   simp -dsimp [Tryz.f151] at hlp
   cases q4:eqI (claimsM d 0 d.claims) 0
   ·rw [q4] at hlp
    simp (maxSteps:=1000000) +contextual -dsimp [Tryz.f151,g1,e0,q2,eqI_self,first2,ci,hlp]
   ·rw [q4] at hlp
    have e1:claimsM d 0 d.claims=0:=by simpa [eqI] using q4
    simp (maxSteps:=1000000) +contextual -dsimp [Tryz.f151,g1,e0,q2,e1,eqI_self,first2,ci,hlp]
  ·have h20:eqI (2:Int) 0=false:=rfl
   simp (maxSteps:=1000000) +contextual -dsimp [Tryz.f151,g1,e0,q2,eqI_self,first2,ci,h20]
def worldM (w:World):Int:=first2 (deskM w.desk) (jourM w.jour)
theorem f4_World (w:World) (hf:FitE w.desk.eng) (hc:w.desk.claims.length < 2 ^ 62) (h1:w.jour.sure.length≤1048576) (h2:w.jour.loose.length≤1048576):fo 138 [A (.ipt (wT w))]=some (R (vI (worldM w))):=by
 have g1:=f_l12FaultT w.desk [yS w.jour.sure,yS w.jour.loose] hf hc
 have g2:=f_l13Fault w.jour h1 h2
 unfold worldM first2
 refine orc_138 1 ?_
 cases q:eqI (deskM w.desk) 0
 ·simp (maxSteps:=1000000) +contextual -dsimp [Tryz.f138,g1,q]
 ·simp (maxSteps:=1000000) +contextual -dsimp [Tryz.f138,g1,g2,q]
theorem f_WorldFault (w:World) (hf:FitE w.desk.eng) (hc:w.desk.claims.length < 2 ^ 62) (h1:w.jour.sure.length≤1048576) (h2:w.jour.loose.length≤1048576):fo 143 [A (.agg (wT w))]=some (R (vI (worldM w))):=by
 have g1:=f_DeskFault w.desk hf hc
 have g2:=f_JournalFault w.jour h1 h2
 refine orc_143 1 ?_
 simp (maxSteps:=1000000) +contextual -dsimp [Tryz.f143,g1,g2,f_first2,worldM,List.set]
structure FitW (w:World):Prop where
 desk:FitD w.desk
 sure:w.jour.sure.length < 2 ^ 62
 loose:w.jour.loose.length < 2 ^ 62
end Go.TM.Ft
namespace Go.TM.Ft
open Go Go.TM Go.Proofs
set_option maxRecDepth 20000
attribute [local congr] gif_cg
attribute [local simp] footOf noClash clash upsets setsHit setHits layHits layMeets setsMeet evFeet seal4_iE seal4_set clean_iE osealed_Node oclean_Node oclean_Proc oclean_Inst oclean_int oclean_Claim osealed_byte oclean_byte
def allB (j:Journal):List UInt8:=j.sure++j.loose
theorem f_Concat2 (a b:List UInt8) (h:a.length+b.length≤2097152):fo 213 [A (.sl 88 [[yS a],[yS b]])]=some ⟨.own 5 ((a++b).map yV),[],true⟩:=by
 have g:=f_Concat [a,b] (by simp) (by simpa [sumL] using h)
 simpa [catL] using g
theorem f_lines (j:Journal) (h:j.sure.length+j.loose.length≤1048576):fo 257 [A (.agg (jT j))]=some ⟨.own 9 ((linesB (allB j)).map sV),[],true⟩:=by
 have g1:=f_Concat2 j.sure j.loose (by omega)
 have g2:=f_readLines (j.sure++j.loose) (by simpa using h)
 have hc:=clean_sV (linesB (j.sure++j.loose))
 have hs:=osealed_byte (j.sure++j.loose)
 refine orc_257 1 ?_
 unfold allB
 generalize linesB (j.sure++j.loose)=ls at *
 generalize restB (j.sure++j.loose)=rs at *
 generalize j.sure++j.loose=al at *
 simp (maxSteps:=1000000) +contextual -dsimp [Tryz.f257,g1,g2,hc,hs,List.set]
abbrev JRO (c n:Int) (a b:List UInt8):List T:=[vI c,vI n,.own 5 (a.map yV),.own 5 (b.map yV)]
abbrev aJ (j:Journal):Arg:=⟨.agg [.ref 0 0 [] 0 j.sure.length,.ref 0 0 [] 1 j.loose.length],some ⟨0,0,false,[.own 5 (j.sure.map yV),.own 5 (j.loose.map yV)]⟩⟩
theorem f_told (j:Journal) (h:j.sure.length+j.loose.length≤1048576):fo 212 [aJ j]=some ⟨.agg (JRO 0 (linesB (allB j)).length j.sure j.loose),[],true⟩:=by
 have g1:=f_lines j h
 have h1:=osealed_byte j.sure
 have h2:=osealed_byte j.loose
 have h3:=oclean_byte j.sure
 have h4:=oclean_byte j.loose
 refine orc_212 1 ?_
 simp (maxSteps:=1000000) +contextual -dsimp [Tryz.f212,g1,h1,h2,h3,h4,List.set]
theorem jourM_few {j:Journal} (h:jourM j=0):j.sure.length+j.loose.length≤2400:=by
 unfold jourM first2 ci at h
 cases q:ltI 2400 ((j.sure.length:Int)+j.loose.length)
 ·simp [ltI] at q; omega
 ·simp [q,eqI] at h
theorem f_SyncJournal (j:Journal) (h0:jourM j=0):fo 144 [A (.agg (jT j))]=some ⟨.agg (JRO 0 (linesB (allB j)).length (allB j) []),[],true⟩:=by
 have hl:=jourM_few h0
 have g0:=f_JournalFault j (by omega) (by omega)
 rw [h0] at g0
 have g1:=f_Concat2 j.sure j.loose (by omega)
 have e:allB ⟨allB j,[]⟩=allB j:=by simp [allB]
 have g2:fo 212 [⟨.agg [.ref 0 0 [] 0 (allB j).length,.ref 0 0 [] 1 0],some ⟨0,0,false,[.own 5 ((allB j).map yV),.own 5 []]⟩⟩]=some ⟨.agg (JRO 0 (linesB (allB j)).length (allB j) []),[],true⟩:=by
  have g:=f_told ⟨allB j,[]⟩ (by simp [allB]; omega)
  rw [e] at g
  exact g
 have h3:=oclean_byte (allB j)
 refine orc_144 1 ?_
 rw [show j.sure++j.loose=allB j from rfl] at g1
 generalize linesB (allB j)=ls at *
 generalize allB j=al at *
 simp (maxSteps:=1000000) +contextual -dsimp [Tryz.f144,g0,g1,g2,h3,eqI_self,List.set]
theorem linesM_len:∀ (f:Nat) (d:List UInt8),(linesM f d).length≤f
 | 0,_=>Nat.le_refl _
 | f+1,d=>by
  unfold linesM
  split
  ·have:=linesM_len f (d.drop (headB d+3)); simp only [List.length_cons]; omega
  ·simp
theorem linesB_len (d:List UInt8):(linesB d).length≤d.length+1:=linesM_len _ _
theorem f_l13ReadN:fo 255 [A (.sl 5 [])]=some ⟨.tup [.own 9 [],vI 0],[],true⟩:=by
 have g:=f_l13Read [] (by simp)
 have e1:linesB []=[]:=by simp [linesB,linesM,ok4,longB]
 have e2:restB []=[]:=by simp [restB,restM,ok4,longB]
 rw [e1,e2] at g
 exact g
theorem f_l13Of (a:List UInt8) (h:a.length≤1048576):fo 209 [A (yS a),A (.sl 5 [])]=some ⟨.agg (JRO 0 (linesB a).length a []),[],true⟩:=by
 have g1:=f_l13Read a h
 have g2:=f_l13ReadN
 have h3:=oclean_byte a
 have hm:a.length≤maxElems:=by unfold maxElems; omega
 have hw:IntKind.i64.wrap ((linesB a).length:Int)=(linesB a).length:=by
  have:=linesB_len a
  rw [wrapI] <;> omega
 refine orc_209 1 ?_
 generalize linesB a=ls at *
 generalize a.length - (restB a).length=n at *
 simp (maxSteps:=1000000) +contextual -dsimp [Tryz.f209,g1,g2,h3,hm,hw,List.set]
theorem f4_SyncJournal (j:Journal) (h0:jourM j=0):fo 141 [A (.agg (jT j))]=some ⟨.agg (JRO 0 (linesB (allB j)).length (allB j) []),[],true⟩:=by
 have hl:=jourM_few h0
 have g0:=f_l13Fault j (by omega) (by omega)
 rw [h0] at g0
 have g1:=f_l13Of (allB j) (by simp [allB]; omega)
 have hm1:j.sure.length≤maxElems:=by unfold maxElems; omega
 have hm2:j.sure.length+j.loose.length≤maxElems:=by unfold maxElems; omega
 have h3:=oclean_byte (allB j)
 have h4:=osealed_byte (allB j)
 have e:j.sure.map yV++j.loose.map yV=(allB j).map yV:=by simp [allB]
 refine orc_141 1 ?_
 simp (maxSteps:=1000000) +contextual -dsimp [Tryz.f141,g0,g1,h3,h4,hm1,hm2,e,eqI_self,List.set]
theorem f_l14Copy (w:World) (h:SmD w.desk) (h1:w.jour.sure.length≤1048576) (h2:w.jour.loose.length≤1048576):fo 140 [A (.agg (wT w))]=some ⟨.agg (WorldO w),[],true⟩:=by
 have g1:=f_l12Copy w.desk h
 have m1:w.jour.sure.length≤maxElems:=elems_le h1
 have m2:w.jour.loose.length≤maxElems:=elems_le h2
 have h3:=oclean_byte w.jour.sure
 have h4:=oclean_byte w.jour.loose
 refine orc_140 1 ?_
 simp (maxSteps:=1000000) +contextual -dsimp [Tryz.f140,g1,m1,m2,h3,h4,List.set]
def noW:World:=⟨noD,⟨[],[]⟩⟩
def badW (k:Int):WorldR:=⟨k,0,0,noW⟩
abbrev RW (r:WorldR):Res:=⟨.agg (WorldResultO r),[],true⟩
def syncM (w:World):WorldR:=if worldM w=0 then ⟨0,0,0,⟨w.desk,⟨allB w.jour,[]⟩⟩⟩ else badW (worldM w)
theorem f_l14Bad (k:Int):fo 139 [A (vI k)]=some (RW (badW k)):=by
 refine orc_139 1 ?_
 simp (maxSteps:=1000000) +contextual -dsimp [Tryz.f139,badW,noW,noD,List.set]
theorem worldM_jour {w:World} (h:worldM w=0):jourM w.jour=0:=by
 unfold worldM first2 at h
 cases q:eqI (deskM w.desk) 0
 ·simp [q] at h; rw [h] at q; simp [eqI] at q
 ·simpa [q] using h
structure SmW (w:World):Prop where
 desk:SmD w.desk
 sure:w.jour.sure.length≤1048576
 loose:w.jour.loose.length≤1048576
set_option maxHeartbeats 4000000 in
theorem f_SyncWorld (w:World) (hf:FitD w.desk) (h:SmW w):fo 58 [A (.agg (wT w))]=some (RW (syncM w)):=by
 have g0:=f_WorldFault w hf.eng hf.claims h.sure h.loose
 unfold syncM
 by_cases q:worldM w=0
 ·rw [q] at g0
  rw [if_pos q]
  have g1:=f_cloneD w.desk h.desk
  have g2:=f_SyncJournal w.jour (worldM_jour q)
  have h3:=oclean_byte (allB w.jour)
  refine orc_58 1 ?_
  simp (maxSteps:=1000000) +contextual -dsimp [Tryz.f58,g0,g1,g2,h3,eqI_self,List.set]
 ·have q2:eqI (worldM w) 0=false:=by simpa [eqI] using q
  rw [if_neg q]
  generalize worldM w=c at *
  refine orc_58 1 ?_
  simp (maxSteps:=1000000) +contextual -dsimp [Tryz.f58,g0,q2,badW,noW,noD,List.set]
set_option maxHeartbeats 4000000 in
theorem f4_SyncWorld (w:World) (hf:FitD w.desk) (h:SmW w):fo 56 [A (.agg (wT w))]=some (RW (syncM w)):=by
 have g0:=f4_World w hf.eng hf.claims h.sure h.loose
 unfold syncM
 by_cases q:worldM w=0
 ·rw [q] at g0
  rw [if_pos q]
  have g1:=f_l14Copy w h.desk h.sure h.loose
  have g2:=f4_SyncJournal w.jour (worldM_jour q)
  have h3:=oclean_byte (allB w.jour)
  refine orc_56 1 ?_
  simp (maxSteps:=1000000) +contextual -dsimp [Tryz.f56,g0,g1,g2,h3,eqI_self,List.set]
 ·have q2:eqI (worldM w) 0=false:=by simpa [eqI] using q
  have g1:=f_l14Bad (worldM w)
  rw [if_neg q]
  generalize worldM w=c at *
  refine orc_56 1 ?_
  simp (maxSteps:=1000000) +contextual -dsimp [Tryz.f56,g0,g1,q2,badW,noW,noD,List.set]
theorem syncM_w (w:World):wWorldResult (syncM w)≤wWorld w:=by
 unfold syncM
 split
 ·simp only [wWorldResult,wWorld,wJournal,allB,List.length_append,List.length_nil]; omega
 ·simp [badW,noW,noD,wWorldResult,wWorld,wJournal,wDesk,wEngine,wsProc,wsInst,sumProc,sumInst]
theorem smW_of {w:World} (h:wWorld w≤1048576):SmW w:=by
 simp only [wWorld,wJournal] at h
 exact ⟨smD_of (by omega),by omega,by omega⟩
theorem fw_world {w:World} (h:FitW w):FwWorld w:=⟨fw_desk h.desk,h.sure,h.loose⟩
end Go.TM.Ft
namespace Go.TM.Ft
open Go Go.TM Go.Proofs
set_option maxRecDepth 20000
theorem tree_bytes {n:Nat} {ts:List T} (h:TreeT Tryz.prog (n+2) 88 ts):∃ l:List UInt8,ts=[yS l]∧l.length < 2 ^ 62:=by
 obtain ⟨l,rfl,hl,_⟩:=tree_slice (f:=yV) (p:=fun _=>True) Tryz.underlying88 h fun c hc=>by
  unfold TreeT at hc
  rw [Tryz.underlying5] at hc
  obtain ⟨x,rfl,hw⟩:=hc
  have hb:=bounds_u8 hw
  refine ⟨UInt8.ofNat x.toNat,?_,trivial⟩
  have e:((UInt8.ofNat x.toNat).toNat:Int)=x:=by rw [UInt8.toNat_ofNat']; omega
  simp only [yV,vU,e]
 exact ⟨l,rfl,hl⟩
theorem tree_deskN {n:Nat} {ts:List T} (h:TreeT Tryz.prog (n+9) 54 ts):∃ d:Desk,ts=dTl d∧FitD d:=by
 unfold TreeT at h
 rw [Tryz.underlying54] at h
 obtain ⟨c1,r1,rfl,h1,c2,r2,rfl,h2,rfl⟩:=h
 obtain ⟨x1,rfl,f1⟩:=tree_engine h1
 obtain ⟨x2,rfl,l2,_⟩:=tree_slice (f:=kT) (p:=fun _=>True) Tryz.underlying52 h2 fun c hc=>tree_claim hc
 exact ⟨⟨x1,x2⟩,rfl,f1,l2⟩
theorem tree_world {ts:List T} (h:TreeT Tryz.prog 10 92 ts):∃ w:World,ts=wTl w∧FitW w:=by
 unfold TreeT at h
 rw [Tryz.underlying92] at h
 obtain ⟨c1,r1,rfl,h1,c2,r2,rfl,h2,rfl⟩:=h
 obtain ⟨x1,rfl,f1⟩:=tree_deskN (n:=0) h1
 simp only at h2
 unfold TreeT at h2
 rw [Tryz.underlying90] at h2
 obtain ⟨c3,r3,rfl,h3,c4,r4,rfl,h4,rfl⟩:=h2
 obtain ⟨x3,rfl,l3⟩:=tree_bytes h3
 obtain ⟨x4,rfl,l4⟩:=tree_bytes h4
 exact ⟨⟨x1,⟨x3,x4⟩⟩,rfl,f1,l3,l4⟩
end Go.TM.Ft
namespace Go.TM.Ft
open Go Go.TM Go.Proofs
set_option maxRecDepth 20000
attribute [local congr] gif_cg
attribute [local simp] footOf noClash clash upsets setsHit setHits layHits layMeets setsMeet evFeet
def czJournal (x:Journal):Nat:=ctsbyte x.sure+ctsbyte x.loose
noncomputable def mzJournal (k:Int) (x:Journal):Journal:={ x with sure:=mksbyte (k) x.sure,loose:=mksbyte (k+(ctsbyte x.sure:Nat)) x.loose }
set_option maxHeartbeats 4000000 in
theorem o_markJournal (x:Journal) (k:Int) (h0:0≤k) (h1:k+(czJournal x:Nat) < 2 ^ 59) (hx:wJournal x≤2097152):∃ b,fo 146 [⟨.agg [.ref 0 0 [] 0 x.sure.length,.ref 0 0 [] 1 x.loose.length],some ⟨0,0,false,[.own 5 (x.sure.map yV),.own 5 (x.loose.map yV)]⟩⟩,A (vI k)]=some ⟨vI (k+(czJournal x:Nat)),[(0,JournalO (mzJournal k x))],b⟩:=by
 simp only [czJournal] at h1
 obtain ⟨k1,e1⟩:∃ z,z=k+(ctsbyte x.sure:Nat):=⟨_,rfl⟩
 obtain ⟨b0,g0⟩:=o_markByteS x.sure k (by omega) (by omega) (by simp only [wJournal] at hx; omega)
 rw [← e1] at g0
 obtain ⟨k2,e2⟩:∃ z,z=k1+(ctsbyte x.loose:Nat):=⟨_,rfl⟩
 obtain ⟨b1,g1⟩:=o_markByteS x.loose k1 (by omega) (by omega) (by simp only [wJournal] at hx; omega)
 rw [← e2] at g1
 have hk:k+(czJournal x:Nat)=k2:=by simp only [czJournal]; omega
 have hm:mzJournal k x={ x with sure:=mksbyte k x.sure,loose:=mksbyte k1 x.loose }:=by subst_vars; rfl
 rw [hk,hm]
 refine ⟨true,orc_146 1 ?_⟩
 simp (maxSteps:=1000000) +contextual -dsimp [Tryz.f146,g0,g1,oclean_byte,evBodyB,boxed,finishB,finishL,mergeL,lendEff,lendOne,lendMany,firstRef,lendRow,lendCell,putRow,putBack,valArg,List.set]
def czWorld (x:World):Nat:=czDesk x.desk+czJournal x.jour
noncomputable def mzWorld (k:Int) (x:World):World:={ x with desk:=mzDesk (k) x.desk,jour:=mzJournal (k+(czDesk x.desk:Nat)) x.jour }
set_option maxHeartbeats 4000000 in
theorem o_markWorld (x:World) (k:Int) (h0:0≤k) (h1:k+(czWorld x:Nat) < 2 ^ 59) (hx:wWorld x≤2097152):∃ b,fo 61 [⟨.agg [.ref 0 0 [] 0 x.desk.eng.procs.length,.ref 0 0 [] 1 x.desk.eng.insts.length,vI x.desk.eng.now,.ref 0 0 [] 3 x.desk.claims.length,.ref 0 0 [] 4 x.jour.sure.length,.ref 0 0 [] 5 x.jour.loose.length],some ⟨0,0,false,[.own 160 (x.desk.eng.procs.map ProcO),.own 163 (x.desk.eng.insts.map InstO),.dead,.own 150 (x.desk.claims.map kT),.own 5 (x.jour.sure.map yV),.own 5 (x.jour.loose.map yV)]⟩⟩,A (vI k)]=some ⟨vI (k+(czWorld x:Nat)),[(0,WorldO (mzWorld k x))],b⟩:=by
 simp only [czWorld] at h1
 obtain ⟨k1,e1⟩:∃ z,z=k+(czDesk x.desk:Nat):=⟨_,rfl⟩
 obtain ⟨b0,g0⟩:=o_markDesk x.desk k (by omega) (by omega) (by simp only [wWorld] at hx; omega)
 rw [← e1] at g0
 obtain ⟨k2,e2⟩:∃ z,z=k1+(czJournal x.jour:Nat):=⟨_,rfl⟩
 obtain ⟨b1,g1⟩:=o_markJournal x.jour k1 (by omega) (by omega) (by simp only [wWorld] at hx; omega)
 rw [← e2] at g1
 have hk:k+(czWorld x:Nat)=k2:=by simp only [czWorld]; omega
 have hm:mzWorld k x={ x with desk:=mzDesk k x.desk,jour:=mzJournal k1 x.jour }:=by subst_vars; rfl
 rw [hk,hm]
 refine ⟨true,orc_61 1 ?_⟩
 simp (maxSteps:=1000000) +contextual -dsimp [Tryz.f61,g0,g1,oclean_Proc,oclean_Inst,oclean_Claim,oclean_byte,evBodyB,boxed,finishB,finishL,mergeL,lendEff,lendOne,lendMany,firstRef,lendRow,lendCell,putRow,putBack,valArg,List.set]
 all_goals (repeat' (first | rfl | constructor))
def czWorldResult (x:WorldR):Nat:=czWorld x.world
noncomputable def mzWorldResult (k:Int) (x:WorldR):WorldR:={ x with world:=mzWorld (k) x.world }
set_option maxHeartbeats 4000000 in
theorem o_markWorldResult (x:WorldR) (k:Int) (h0:0≤k) (h1:k+(czWorldResult x:Nat) < 2 ^ 59) (hx:wWorldResult x≤2097152):∃ b,fo 62 [⟨.agg [vI x.code,vI x.reply,vI x.value,.ref 0 0 [] 3 x.world.desk.eng.procs.length,.ref 0 0 [] 4 x.world.desk.eng.insts.length,vI x.world.desk.eng.now,.ref 0 0 [] 6 x.world.desk.claims.length,.ref 0 0 [] 7 x.world.jour.sure.length,.ref 0 0 [] 8 x.world.jour.loose.length],some ⟨0,0,false,[.dead,.dead,.dead,.own 160 (x.world.desk.eng.procs.map ProcO),.own 163 (x.world.desk.eng.insts.map InstO),.dead,.own 150 (x.world.desk.claims.map kT),.own 5 (x.world.jour.sure.map yV),.own 5 (x.world.jour.loose.map yV)]⟩⟩,A (vI k)]=some ⟨vI (k+(czWorldResult x:Nat)),[(0,WorldResultO (mzWorldResult k x))],b⟩:=by
 simp only [czWorldResult] at h1
 obtain ⟨k1,e1⟩:∃ z,z=k+(czWorld x.world:Nat):=⟨_,rfl⟩
 obtain ⟨b0,g0⟩:=o_markWorld x.world k (by omega) (by omega) (by simp only [wWorldResult] at hx; omega)
 rw [← e1] at g0
 have hk:k+(czWorldResult x:Nat)=k1:=by simp only [czWorldResult]; omega
 have hm:mzWorldResult k x={ x with world:=mzWorld k x.world }:=by subst_vars; rfl
 rw [hk,hm]
 refine ⟨true,orc_62 1 ?_⟩
 simp (maxSteps:=1000000) +contextual -dsimp [Tryz.f62,g0,oclean_Proc,oclean_Inst,oclean_Claim,oclean_byte,evBodyB,boxed,finishB,finishL,mergeL,lendEff,lendOne,lendMany,firstRef,lendRow,lendCell,putRow,putBack,valArg,List.set]
 all_goals (repeat' (first | rfl | constructor))
end Go.TM.Ft
namespace Go.TM.Ft
open Go Go.TM Go.Proofs
set_option maxRecDepth 20000
attribute [local congr] gif_cg
attribute [local simp] footOf noClash clash upsets setsHit setHits layHits layMeets setsMeet evFeet
set_option maxHeartbeats 4000000 in
theorem o_heldJournal (x:Journal) (k:Int) (h0:0≤k) (h1:k+(czJournal x:Nat) < 2 ^ 59) (hx:wJournal x≤2097152):fo 216 [A (.agg (jT (mzJournal k x))),A (vI k)]=some (R (vI (k+(czJournal x:Nat)))):=by
 simp only [czJournal] at h1
 obtain ⟨k1,e1⟩:∃ z,z=k+(ctsbyte x.sure:Nat):=⟨_,rfl⟩
 have g0:=o_heldByteS x.sure k (by omega) (by omega) (by simp only [wJournal] at hx; omega)
 rw [← e1] at g0
 have n0:ltI k1 0=false:=ltI_f (by omega)
 obtain ⟨k2,e2⟩:∃ z,z=k1+(ctsbyte x.loose:Nat):=⟨_,rfl⟩
 have g1:=o_heldByteS x.loose k1 (by omega) (by omega) (by simp only [wJournal] at hx; omega)
 rw [← e2] at g1
 have n1:ltI k2 0=false:=ltI_f (by omega)
 have hk:k+(czJournal x:Nat)=k2:=by simp only [czJournal]; omega
 have hm:mzJournal k x={ x with sure:=mksbyte k x.sure,loose:=mksbyte k1 x.loose }:=by subst_vars; rfl
 rw [hk,hm]
 refine orc_216 1 ?_
 simp (maxSteps:=1000000) +contextual -dsimp [Tryz.f216,g0,n0,g1,n1,List.set]
set_option maxHeartbeats 4000000 in
theorem o_heldWorld (x:World) (k:Int) (h0:0≤k) (h1:k+(czWorld x:Nat) < 2 ^ 59) (hx:wWorld x≤2097152):fo 147 [A (.agg (wT (mzWorld k x))),A (vI k)]=some (R (vI (k+(czWorld x:Nat)))):=by
 simp only [czWorld] at h1
 obtain ⟨k1,e1⟩:∃ z,z=k+(czDesk x.desk:Nat):=⟨_,rfl⟩
 have g0:=o_heldDesk x.desk k (by omega) (by omega) (by simp only [wWorld] at hx; omega)
 rw [← e1] at g0
 have n0:ltI k1 0=false:=ltI_f (by omega)
 obtain ⟨k2,e2⟩:∃ z,z=k1+(czJournal x.jour:Nat):=⟨_,rfl⟩
 have g1:=o_heldJournal x.jour k1 (by omega) (by omega) (by simp only [wWorld] at hx; omega)
 rw [← e2] at g1
 have n1:ltI k2 0=false:=ltI_f (by omega)
 have hk:k+(czWorld x:Nat)=k2:=by simp only [czWorld]; omega
 have hm:mzWorld k x={ x with desk:=mzDesk k x.desk,jour:=mzJournal k1 x.jour }:=by subst_vars; rfl
 rw [hk,hm]
 refine orc_147 1 ?_
 simp (maxSteps:=1000000) +contextual -dsimp [Tryz.f147,g0,n0,g1,n1,List.set]
set_option maxHeartbeats 4000000 in
theorem o_heldWorldResult (x:WorldR) (k:Int) (h0:0≤k) (h1:k+(czWorldResult x:Nat) < 2 ^ 59) (hx:wWorldResult x≤2097152):fo 63 [A (.agg (wrT (mzWorldResult k x))),A (vI k)]=some (R (vI (k+(czWorldResult x:Nat)))):=by
 simp only [czWorldResult] at h1
 obtain ⟨k1,e1⟩:∃ z,z=k+(czWorld x.world:Nat):=⟨_,rfl⟩
 have g0:=o_heldWorld x.world k (by omega) (by omega) (by simp only [wWorldResult] at hx; omega)
 rw [← e1] at g0
 have n0:ltI k1 0=false:=ltI_f (by omega)
 have hk:k+(czWorldResult x:Nat)=k1:=by simp only [czWorldResult]; omega
 have hm:mzWorldResult k x={ x with world:=mzWorld k x.world }:=by subst_vars; rfl
 rw [hk,hm]
 refine orc_63 1 ?_
 simp (maxSteps:=1000000) +contextual -dsimp [Tryz.f63,g0,n0,List.set]
end Go.TM.Ft
