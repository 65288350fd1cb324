/- What functions of the program come to, by the machine. -/
import Derived.Test.YtlmiemdojgahaaaGreatFL10
import Derived.Test.YtlmiemdojgahaaaGreatTm3
import Derived.Test.YtlmiemdojgahaaaGreatFL9
import Derived.Test.YtlmiemdojgahaaaGreatFL11
import Derived.Test.YtlmiemdojgahaaaGreatFL13
import Derived.ProofKit
import Derived.SizedLaws
set_option linter.unusedSimpArgs false
set_option linter.unusedVariables false
namespace Go.TM.Ft
open Go Go.TM Go.Proofs
set_option maxRecDepth 20000
attribute [local congr] gif_cg
attribute [local simp] footOf noClash clash upsets setsHit setHits layHits layMeets setsMeet evFeet
structure FitD (d:Desk):Prop where
 eng:FitE d.eng
 claims:d.claims.length < 2 ^ 62
theorem fw_step {s:Step} (h:FitS s):FwStep s:=⟨h.name,h.cond,h.expr⟩
theorem fw_proc {p:List Step} (h:FitP p):FwProc p:=⟨h.len,fun s hs=>fw_step (h.steps s hs)⟩
theorem fw_chart {c:Chart} (h:FitC c):FwChart c:=⟨h.vars,h.acts,h.dues⟩
theorem fw_engine {e:Engine} (h:FitE e):FwEngine e:=⟨⟨h.np,fun p hp=>fw_proc (h.procs p hp)⟩,⟨h.ni,fun x hx=>fw_chart (h.insts x hx)⟩⟩
theorem fw_desk {d:Desk} (h:FitD d):FwDesk d:=⟨fw_engine h.eng,h.claims⟩
theorem tree_int {n:Nat} {ts:List T} (h:TreeT Tryz.prog (n+1) 2 ts):∃ x,ts=[vI x]∧-9223372036854775808≤x∧x < 9223372036854775808:=by
 unfold TreeT at h
 rw [Tryz.underlying2] at h
 obtain ⟨x,rfl,hw⟩:=h
 have:=bounds_i64 hw
 exact ⟨x,rfl,by omega,by omega⟩
theorem map_of {α β:Type} {f:α→β} {p:α→Prop}:∀ {l:List β},(∀ c,c∈l→∃ x,c=f x∧p x)→∃ xs:List α,l=xs.map f∧∀ x,x∈xs→p x
 | [],_=>⟨[],rfl,fun x hx=>by simp at hx⟩
 | c::l,h=>by
  obtain ⟨x,rfl,hx⟩:=h c (by simp)
  obtain ⟨xs,rfl,hxs⟩:=map_of (f:=f) (p:=p) (l:=l) fun d hd=>h d (by simp [hd])
  exact ⟨x::xs,rfl,fun y hy=>by
   rcases List.mem_cons.1 hy with rfl | hy
   ·exact hx
   ·exact hxs y hy⟩
theorem tree_slice {α:Type} {P:Program} {n:Nat} {t e:TypeId} {ts:List T} {f:α→List T} {p:α→Prop} (hu:P.underlying t=some (.slice e)) (h:TreeT P (n+1) t ts)
  (hx:∀ c,TreeT P n e c→∃ x,c=f x∧p x):∃ l:List α,ts=[.sl e (l.map f)]∧l.length < 2 ^ 62∧∀ x,x∈l→p x:=by
 unfold TreeT at h
 rw [hu] at h
 obtain ⟨es,rfl,hl,h2⟩:=h
 obtain ⟨xs,rfl,hp⟩:=map_of (f:=f) (p:=p) (l:=es) fun c hc=>hx c (h2 c hc)
 refine ⟨xs,rfl,?_,hp⟩
 simp at hl; unfold reachBytes at hl; omega
theorem tree_node {n:Nat} {ts:List T} (h:TreeT Tryz.prog (n+2) 267 ts):∃ x,ts=nT x∧True:=by
 unfold TreeT at h
 rw [Tryz.underlying267] at h
 obtain ⟨c1,r1,rfl,h1,c2,r2,rfl,h2,c3,r3,rfl,h3,c4,r4,rfl,h4,rfl⟩:=h
 obtain ⟨x1,rfl,_⟩:=tree_int h1
 obtain ⟨x2,rfl,_⟩:=tree_int h2
 obtain ⟨x3,rfl,_⟩:=tree_int h3
 obtain ⟨x4,rfl,_⟩:=tree_int h4
 exact ⟨⟨x1,x2,x3,x4⟩,rfl,trivial⟩
theorem tree_step {n:Nat} {ts:List T} (h:TreeT Tryz.prog (n+4) 111 ts):∃ s:Step,ts=sT 267 s∧FitS s:=by
 unfold TreeT at h
 rw [Tryz.underlying111] at h
 obtain ⟨c1,r1,rfl,h1,c2,r2,rfl,h2,c3,r3,rfl,h3,c4,r4,rfl,h4,c5,r5,rfl,h5,c6,r6,rfl,h6,rfl⟩:=h
 obtain ⟨x1,rfl,_⟩:=tree_int h1
 obtain ⟨x2,rfl,p1,p2⟩:=tree_int h2
 obtain ⟨x4,rfl,_⟩:=tree_int h4
 obtain ⟨x5,rfl,l5,_⟩:=tree_slice (f:=nT) (p:=fun _=>True) Tryz.underlying109 h5 fun c hc=>tree_node hc
 obtain ⟨x6,rfl,l6,_⟩:=tree_slice (f:=nT) (p:=fun _=>True) Tryz.underlying109 h6 fun c hc=>tree_node hc
 simp only at h3
 unfold TreeT at h3
 rw [Tryz.underlying9] at h3
 obtain ⟨x3,rfl,l3⟩:=h3
 exact ⟨⟨x1,x2,x3,x4,x5,x6⟩,rfl,p1,p2,by unfold reachBytes at l3; simp; omega,l5,l6⟩
theorem tree_proc {n:Nat} {ts:List T} (h:TreeT Tryz.prog (n+6) 225 ts):∃ p:List Step,ts=pT 111 267 p∧FitP p:=by
 unfold TreeT at h
 rw [Tryz.underlying225] at h
 obtain ⟨c1,r1,rfl,h1,rfl⟩:=h
 obtain ⟨l,rfl,hl,hf⟩:=tree_slice (f:=sT 267) (p:=FitS) Tryz.underlying22 h1 fun c hc=>tree_step hc
 exact ⟨l,rfl,hl,hf⟩
theorem tree_ints {n:Nat} {ts:List T} (h:TreeT Tryz.prog (n+2) 23 ts):∃ l:List Int,ts=[iS l]∧l.length < 2 ^ 62:=by
 obtain ⟨l,rfl,hl,_⟩:=tree_slice (f:=fun n=>[vI n]) (p:=fun _=>True) Tryz.underlying23 h fun c hc=>by
  obtain ⟨x,rfl,_⟩:=tree_int hc
  exact ⟨x,rfl,trivial⟩
 exact ⟨l,rfl,hl⟩
theorem tree_chart {n:Nat} {ts:List T} (h:TreeT Tryz.prog (n+3) 227 ts):∃ c:Chart,ts=cT c∧FitC c:=by
 unfold TreeT at h
 rw [Tryz.underlying227] at h
 obtain ⟨c1,r1,rfl,h1,c2,r2,rfl,h2,c3,r3,rfl,h3,c4,r4,rfl,h4,c5,r5,rfl,h5,rfl⟩:=h
 obtain ⟨x1,rfl,_⟩:=tree_int h1
 obtain ⟨x2,rfl,_⟩:=tree_int h2
 obtain ⟨x3,rfl,l3⟩:=tree_ints h3
 obtain ⟨x4,rfl,l4⟩:=tree_ints h4
 obtain ⟨x5,rfl,l5⟩:=tree_ints h5
 exact ⟨⟨x1,x2,x3,x4,x5⟩,rfl,l3,l4,l5⟩
theorem tree_inst {n:Nat} {ts:List T} (h:TreeT Tryz.prog (n+4) 229 ts):∃ x:Inst,ts=xT x∧FitC x.chart:=by
 unfold TreeT at h
 rw [Tryz.underlying229] at h
 obtain ⟨c1,r1,rfl,h1,c2,r2,rfl,h2,rfl⟩:=h
 obtain ⟨x1,rfl,_⟩:=tree_int h1
 obtain ⟨x2,rfl,f2⟩:=tree_chart h2
 exact ⟨⟨x1,x2⟩,rfl,f2⟩
theorem tree_claim {n:Nat} {ts:List T} (h:TreeT Tryz.prog (n+2) 222 ts):∃ x:Claim,ts=kT x∧True:=by
 unfold TreeT at h
 rw [Tryz.underlying222] at h
 obtain ⟨c1,r1,rfl,h1,c2,r2,rfl,h2,c3,r3,rfl,h3,rfl⟩:=h
 obtain ⟨x1,rfl,_⟩:=tree_int h1
 obtain ⟨x2,rfl,_⟩:=tree_int h2
 obtain ⟨x3,rfl,_⟩:=tree_int h3
 exact ⟨⟨x1,x2,x3⟩,rfl,trivial⟩
theorem tree_engine {n:Nat} {ts:List T} (h:TreeT Tryz.prog (n+8) 51 ts):∃ e:Engine,ts=eTl e∧FitE e:=by
 unfold TreeT at h
 rw [Tryz.underlying51] at h
 obtain ⟨c1,r1,rfl,h1,c2,r2,rfl,h2,c3,r3,rfl,h3,rfl⟩:=h
 obtain ⟨x1,rfl,l1,f1⟩:=tree_slice (f:=pT 111 267) (p:=FitP) Tryz.underlying48 h1 fun c hc=>tree_proc hc
 obtain ⟨x2,rfl,l2,f2⟩:=tree_slice (f:=xT) (p:=fun x=>FitC x.chart) Tryz.underlying49 h2 fun c hc=>tree_inst hc
 obtain ⟨x3,rfl,_⟩:=tree_int h3
 exact ⟨⟨x1,x2,x3⟩,rfl,l1,l2,f1,f2⟩
theorem tree_desk {ts:List T} (h:TreeT Tryz.prog 9 54 ts):∃ d:Desk,ts=dTl d∧FitD d:=by
 unfold TreeT at h
 rw [Tryz.underlying54] at h
 obtain ⟨c1,r1,rfl,h1,c2,r2,rfl,h2,rfl⟩:=h
 obtain ⟨x1,rfl,f1⟩:=tree_engine h1
 obtain ⟨x2,rfl,l2,_⟩:=tree_slice (f:=kT) (p:=fun _=>True) Tryz.underlying52 h2 fun c hc=>tree_claim hc
 exact ⟨⟨x1,x2⟩,rfl,f1,l2⟩
end Go.TM.Ft
namespace Go.TM.Ft
open Go Go.TM Go.Proofs
set_option maxRecDepth 20000
attribute [local congr] gif_cg
attribute [local simp] footOf noClash clash upsets setsHit setHits layHits layMeets setsMeet evFeet seal4_iE seal4_set clean_iE
end Go.TM.Ft
namespace Go.TM.Ft
open Go Go.TM Go.Proofs
theorem sum_mem {α:Type} (w:α→Nat) (s:List α→Nat) (h0:∀ x r,s (x::r)=w x+s r):∀ {l:List α} {x:α},x∈l→w x≤s l
 | [],x,h=>by simp at h
 | y::l,x,h=>by
  rw [h0]
  rcases List.mem_cons.1 h with rfl | h
  ·omega
  ·have:=sum_mem w s h0 h; omega
theorem smE_of {e:Engine} (h:wEngine e≤1048576):SmE e:=by
 have h1:wsProc e.procs≤1048576:=by simp only [wEngine] at h; omega
 have h2:wsInst e.insts≤1048576:=by simp only [wEngine] at h; omega
 refine ⟨by simp only [wsProc] at h1; omega,by simp only [wsInst] at h2; omega,fun p hp=>?_,fun x hx=>?_⟩
 ·have hw:wProc p≤1048576:=by
   have:=sum_mem wProc sumProc (fun _ _=>rfl) hp
   simp only [wsProc] at h1; omega
  simp only [wProc,wsStep] at hw
  refine ⟨by omega,fun s hs=>?_⟩
  have:=sum_mem wStep sumStep (fun _ _=>rfl) hs
  simp only [wStep] at this
  exact ⟨by omega,by omega⟩
 ·have hw:wInst x≤1048576:=by
   have:=sum_mem wInst sumInst (fun _ _=>rfl) hx
   simp only [wsInst] at h2; omega
  simp only [wInst,wChart] at hw
  exact ⟨by omega,by omega,by omega⟩
end Go.TM.Ft
namespace Go.TM.Ft
open Go Go.TM Go.Proofs
theorem smD_of {d:Desk} (h:wDesk d≤1048576):SmD d:=⟨smE_of (by simp only [wDesk] at h; omega),by simp only [wDesk] at h; omega⟩
theorem cz_DeskResult (x:DeskR):czDeskResult x≤4*wDeskResult x:=by
 have:=cz_Desk x.desk
 simp only [czDeskResult,wDeskResult]; omega
theorem badD_w (k:Int):wDeskResult (badD k)≤100:=by simp [wDeskResult,badD,noD,wDesk,wEngine,wsProc,wsInst,sumProc,sumInst]
theorem freeM_w (d:Desk) (u i s:Int):wDeskResult (freeM d u i s)≤wDesk d+100:=by
 unfold freeM
 split
 ·have:=badD_w (taskM d u i s); omega
 ·split
  ·have:=badD_w 10; omega
  ·have:(withoutM d.claims i s).length≤d.claims.length:=List.length_filter_le _ _
   simp only [wDeskResult,wDesk]; omega
end Go.TM.Ft
namespace Go.TM.Ft
open Go Go.TM Go.Proofs
set_option maxRecDepth 20000
attribute [local congr] gif_cg
attribute [local simp] footOf noClash clash upsets setsHit setHits layHits layMeets setsMeet evFeet seal4_iE seal4_set clean_iE
set_option maxHeartbeats 16000000 in
theorem f_LawFree (d:Desk) (h_d:FitD d) (user:Int) (inst:Int) (step:Int):
  fo 4 [A (.agg (dTl d)),A (vI user),A (vI inst),A (vI step)]=some (R (vB true)):=by
 have s0:=g_szDesk d (1048576) (by omega) (by omega) (fw_desk h_d)
 cases c0:ltI (subM (1048576) (wDesk d)) 0
 rotate_left
 ·refine orc_4 1 ?_
  simp (maxSteps:=1000000) +contextual -dsimp [Tryz.f4,s0,c0,List.set]
 obtain ⟨p0,e0⟩:=sub_f c0
 rw [e0] at s0 c0
 have v0:wDesk d≤1048576:=by omega
 have o0:=o_toDesk d v0
 have q0:=g_eqDesk d (by omega)
 have b0:=cz_Desk d
 have r1:=f4_FreeTask d h_d.eng (smD_of v0) user inst step
 have r2:=f_FreeTask d h_d.eng (smD_of v0) user inst step
 have hw:wDeskResult (freeM d user inst step)≤2097152:=(by have:=freeM_w d user inst step; omega)
 generalize freeM d user inst step=x at *
 have bx:=cz_DeskResult x
 have qx:=g_eqDeskResult x hw
 obtain ⟨d0,m0⟩:=o_markDesk d (1) (by omega) (by omega) (by omega)
 obtain ⟨dx,mx⟩:=o_markDeskResult x 1 (by omega) (by omega) hw
 have hx:=o_heldDeskResult x 1 (by omega) (by omega) hw
 rw [show (T.agg (drT (mzDeskResult 1 x)):T)=.agg [vI x.code,vI x.value,.sl 160 ((mzDeskResult 1 x).desk.eng.procs.map (pT 124 219)),.sl 163 ((mzDeskResult 1 x).desk.eng.insts.map xT),vI x.desk.eng.now,.sl 150 ((mzDeskResult 1 x).desk.claims.map kT)] from rfl] at hx
 have n1:ltI (1+(czDesk d:Nat)) 0=false:=ltI_f (by omega)
 have n2:ltI (1+(czDeskResult x:Nat)) 0=false:=ltI_f (by omega)
 generalize 1+(czDesk d:Int)=a0 at *
 generalize mzDesk 1 d=y0 at *
 generalize 1+(czDeskResult x:Int)=ax at *
 generalize mzDeskResult 1 x=y at *
 have t0:=osealed_Proc d.eng.procs
 have t1:=osealed_Inst d.eng.insts
 have t2:=osealed_Claim d.claims
 have t3:=osealed_Proc x.desk.eng.procs
 have t4:=osealed_Inst x.desk.eng.insts
 have t5:=osealed_Claim x.desk.claims
 have t6:=osealed_Proc y.desk.eng.procs
 have t7:=osealed_Inst y.desk.eng.insts
 have t8:=osealed_Claim y.desk.claims
 refine orc_4 1 ?_
 simp (maxSteps:=4000000) +contextual -dsimp [Tryz.f4,s0,c0,o0,q0,m0,r1,r2,qx,mx,hx,n1,n2,t0,t1,t2,t3,t4,t5,t6,t7,t8,eqI_self,lendEff,lendOne,lendMany,firstRef,lendRow,lendCell,putRow,putBack,valArg,List.set]
end Go.TM.Ft
namespace Go.TM.Ft
open Go Go.TM Go.Proofs Go.RowKit Go.ChangeShapes Go.WideShapes
set_option maxRecDepth 20000
def okAll (sz:TypeId→Nat) (h:Array Obj) (I:Nat→Prop):List T→List Value→Prop
 | [],us=>us=[]
 | t::ts,us=>∃ u us',us=u::us'∧okV sz h I t u []∧okAll sz h I ts us'
theorem okArgs_all {sz h I}:∀ {ar:List T} {us:List Value} (i:Nat),okAll sz h I ar us→okArgs sz h I i (ar.map A) us []
 | [],us,i,h=>⟨h,rfl⟩
 | t::ts,us,i,h=>by
  obtain ⟨u,us',rfl,h1,h2⟩:=h
  exact ⟨u,us',[],[],rfl,rfl,⟨h1,rfl⟩,okArgs_all (i+1) h2⟩
theorem law_calls {f:Nat} {ar:List T} {us:List Value} {W:Go.World} (hl:lends (E.mode f)=false) (h:fo f (ar.map A)=some (R (vB true))) (hok:okAll (szOf E) W.heap (fun b=>b < W.heap.size) ar us):
  Calls Tryz.prog f us.toArray W fun e W'=>e=.returned (.bool true)∧Below W.heap.size W W':=by
 have hs:=(orc_sound able h).1.old hl ⟨W,[],fun b=>b < W.heap.size,fun b hb=>⟨hb,by simp⟩⟩ us (by simp [Uniq]) (by simp) (okArgs_all 0 hok)
 refine Calls.mono hs fun e W' h=>?_
 match e,h with
 | .returned u,h=>
  obtain ⟨f,fo,hu,_⟩:=h.ok
  simp only [okV] at hu
  obtain ⟨rfl,_⟩:=hu
  exact ⟨rfl,⟨h.fr.os,h.fr.tape,h.fr.output,h.fr.size,fun k hk=>h.fr.block k hk (by simp)⟩⟩
section
variable {H:Type} {enc:TypeId × Value→H} {W:Go.World} {base:Nat} {n:Nat} {t:TypeId} {v:Value} {d:DataW H} {p:List MemPlace}
theorem read_cell (hp:plainT (szOf E) Tryz.prog n t=true) (h:DataW.Trod enc Tryz.prog W 0 (fun _=>true) true t v d p) (hv:v.cells=#[v]) (hwt:∀ k,k∈d.weights Tryz.prog t→k≤reachBytes):
  ∃ a,TreeT Tryz.prog n t [a]∧okV (szOf E) W.heap (fun b=>b < W.heap.size) a v []:=by
 obtain ⟨ts,ht,hok⟩:=read_arg (sz:=szOf E) (I:=fun b=>b < W.heap.size) (fun b hb=>hb) hp h hv hwt
 match ts,hok with
 | [],hok=>simp [okL] at hok
 | a::ts,hok=>
  simp only [okL] at hok
  obtain ⟨u,us',f1,f2,e1,e2,h1,h2⟩:=hok
  obtain ⟨rfl,rfl⟩:=List.cons.inj e1
  obtain ⟨rfl,rfl⟩:=List.append_eq_nil_iff.1 e2.symm
  cases ts with
  | nil=>exact ⟨a,ht,h1⟩
  | cons b ts=>simp [okL] at h2
theorem read_int {k:IntKind} (hu:Tryz.prog.underlying t=some (.int k)) (hp:plainT (szOf E) Tryz.prog n t=true) (h:DataW.Trod enc Tryz.prog W 0 (fun _=>true) true t v d p) (hv:Value.okWide Tryz.prog W .any base t v)
  (hwt:∀ k,k∈d.weights Tryz.prog t→k≤reachBytes):∃ a,TreeT Tryz.prog n t [a]∧okV (szOf E) W.heap (fun b=>b < W.heap.size) a v []:=by
 obtain ⟨m,rfl⟩:=okWide_int hu hv
 exact read_cell hp h rfl hwt
theorem read_struct {fs:Array Field} (hu:Tryz.prog.underlying t=some (.struct fs)) (hp:plainT (szOf E) Tryz.prog n t=true) (h:DataW.Trod enc Tryz.prog W 0 (fun _=>true) true t v d p) (hv:Value.okWide Tryz.prog W .any base t v)
  (hwt:∀ k,k∈d.weights Tryz.prog t→k≤reachBytes):∃ cs,TreeT Tryz.prog n t cs∧okV (szOf E) W.heap (fun b=>b < W.heap.size) (.agg cs) v []:=by
 simp only [Value.okWide,hu] at hv
 obtain ⟨cs,rfl,_⟩:=hv
 obtain ⟨fuel,hf0⟩:=h
 obtain ⟨ts,ht,hok⟩:=read_ok (sz:=szOf E) (I:=fun b=>b < W.heap.size) (fun b hb=>hb) n fuel t _ _ hp hf0 hwt
 exact ⟨ts,ht,by simp only [okV]; exact ⟨cs.toList,by simp,hok⟩⟩
end
end Go.TM.Ft
