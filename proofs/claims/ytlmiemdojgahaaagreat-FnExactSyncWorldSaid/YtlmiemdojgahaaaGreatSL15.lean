/- What functions of the program come to, by the machine. -/
import Derived.Test.YtlmiemdojgahaaaGreatSL14
import Derived.Test.YtlmiemdojgahaaaGreatSL13
import Derived.Test.YtlmiemdojgahaaaGreatSL9
import Derived.ProofKit
import Derived.SizedLaws
set_option linter.unusedSimpArgs false
set_option linter.unusedVariables false
namespace Go.TM.Ft
open Go Go.TM Go.Proofs
set_option maxRecDepth 20000
attribute [local congr] gif_cg
attribute [local simp] fresh ownLen footOf noClash clash upsets setsHit setHits layHits layMeets setsMeet evFeet
theorem o_toJournal (x:Journal) (h:wJournal x≤1048576):fo 142 [A (.agg (jT x))]=some ⟨.agg (JournalO x),[],true⟩:=by
 have g0:=o_tobyteS x.sure (by simp only [wJournal] at h; omega)
 have s0:=oclean_byte x.sure
 have g1:=o_tobyteS x.loose (by simp only [wJournal] at h; omega)
 have s1:=oclean_byte x.loose
 refine orc_142 1 ?_
 simp (maxSteps:=1000000) +contextual -dsimp [Tryz.f142,g0,s0,g1,s1,List.set]
theorem o_toWorld (x:World) (h:wWorld x≤1048576):fo 57 [A (.agg (wTl x))]=some ⟨.agg (WorldO x),[],true⟩:=by
 have g0:=o_toDesk x.desk (by simp only [wWorld] at h; omega)
 have s00:=oclean_Proc x.desk.eng.procs
 have s01:=oclean_Inst x.desk.eng.insts
 have s0claims:=oclean_Claim x.desk.claims
 have g1:=o_toJournal x.jour (by simp only [wWorld] at h; omega)
 have s1sure:=oclean_byte x.jour.sure
 have s1loose:=oclean_byte x.jour.loose
 refine orc_57 1 ?_
 simp (maxSteps:=1000000) +contextual -dsimp [Tryz.f57,g0,s00,s01,s0claims,g1,s1sure,s1loose,List.set]
end Go.TM.Ft
namespace Go.TM.Ft
open Go Go.TM Go.Proofs
set_option maxRecDepth 20000
attribute [local congr] gif_cg
attribute [local simp] footOf noClash clash upsets setsHit setHits layHits layMeets setsMeet evFeet
theorem g_eqWorldResult (x:WorldR) (h:wWorldResult x≤2097152):fo 59 [A (.agg (wrT x)),A (.agg (wrT x))]=some (R (vB true)):=by
 have g3:=g_eqWorld x.world (by simp only [wWorldResult] at h; omega)
 refine orc_59 1 ?_
 simp (maxSteps:=1000000) +contextual -dsimp [Tryz.f59,eqI_self,eqS_self,g3,List.set]
end Go.TM.Ft
namespace Go.TM.Ft
open Go Go.TM Go.Proofs
theorem cz_World (x:World):czWorld x≤4*wWorld x:=by
 have h1:=cz_Desk x.desk
 simp only [czWorld,wWorld,czJournal,wJournal,ctsbyte]; omega
theorem cz_WorldResult (x:WorldR):czWorldResult x≤4*wWorldResult x:=by
 have h1:=cz_World x.world
 simp only [czWorldResult,wWorldResult]; omega
end Go.TM.Ft
namespace Go.TM.Ft
open Go Go.TM Go.Proofs
set_option maxRecDepth 20000
attribute [local congr] gif_cg
attribute [local simp] footOf noClash clash upsets setsHit setHits layHits layMeets setsMeet evFeet seal4_iE seal4_set clean_iE
set_option maxHeartbeats 16000000 in
theorem f_LawSync (w:World) (h_w:FitW w):
  fo 10 [A (.agg (wTl w))]=some (R (vB true)):=by
 have s0:=g_szWorld w (1048576) (by omega) (by omega) (fw_world h_w)
 cases c0:ltI (subM (1048576) (wWorld w)) 0
 rotate_left
 ·refine orc_10 1 ?_
  simp (maxSteps:=1000000) +contextual -dsimp [Tryz.f10,s0,c0,List.set]
 obtain ⟨p0,e0⟩:=sub_f c0
 rw [e0] at s0 c0
 have v0:wWorld w≤1048576:=by omega
 have o0:=o_toWorld w v0
 have q0:=g_eqWorld w (by omega)
 have b0:=cz_World w
 have r1:=f4_SyncWorld w h_w.desk (smW_of v0)
 have r2:=f_SyncWorld w h_w.desk (smW_of v0)
 have hw:wWorldResult (syncM w)≤2097152:=(by have:=syncM_w w; omega)
 generalize syncM w=x at *
 have bx:=cz_WorldResult x
 have qx:=g_eqWorldResult x hw
 obtain ⟨d0,m0⟩:=o_markWorld w (1) (by omega) (by omega) (by omega)
 obtain ⟨dx,mx⟩:=o_markWorldResult x 1 (by omega) (by omega) hw
 have hx:=o_heldWorldResult x 1 (by omega) (by omega) hw
 rw [show (T.agg (wrT (mzWorldResult 1 x)):T)=.agg [vI x.code,vI x.reply,vI x.value,.sl 160 ((mzWorldResult 1 x).world.desk.eng.procs.map (pT 124 219)),.sl 163 ((mzWorldResult 1 x).world.desk.eng.insts.map xT),vI x.world.desk.eng.now,.sl 150 ((mzWorldResult 1 x).world.desk.claims.map kT),.sl 5 ((mzWorldResult 1 x).world.jour.sure.map yV),.sl 5 ((mzWorldResult 1 x).world.jour.loose.map yV)] from rfl] at hx
 have n1:ltI (1+(czWorld w:Nat)) 0=false:=ltI_f (by omega)
 have n2:ltI (1+(czWorldResult x:Nat)) 0=false:=ltI_f (by omega)
 generalize 1+(czWorld w:Int)=a0 at *
 generalize mzWorld 1 w=y0 at *
 generalize 1+(czWorldResult x:Int)=ax at *
 generalize mzWorldResult 1 x=y at *
 have t0:=osealed_Proc w.desk.eng.procs
 have t1:=osealed_Inst w.desk.eng.insts
 have t2:=osealed_Claim w.desk.claims
 have t3:=osealed_byte w.jour.sure
 have t4:=osealed_byte w.jour.loose
 have t5:=osealed_Proc x.world.desk.eng.procs
 have t6:=osealed_Inst x.world.desk.eng.insts
 have t7:=osealed_Claim x.world.desk.claims
 have t8:=osealed_byte x.world.jour.sure
 have t9:=osealed_byte x.world.jour.loose
 have t10:=osealed_Proc y.world.desk.eng.procs
 have t11:=osealed_Inst y.world.desk.eng.insts
 have t12:=osealed_Claim y.world.desk.claims
 have t13:=osealed_byte y.world.jour.sure
 have t14:=osealed_byte y.world.jour.loose
 refine orc_10 1 ?_
 simp (maxSteps:=4000000) +contextual -dsimp [Tryz.f10,s0,c0,o0,q0,m0,r1,r2,qx,mx,hx,n1,n2,t0,t1,t2,t3,t4,t5,t6,t7,t8,t9,t10,t11,t12,t13,t14,eqI_self,lendEff,lendOne,lendMany,firstRef,lendRow,lendCell,putRow,putBack,valArg,List.set]
end Go.TM.Ft
namespace Go.TM.Ft
open Go Go.TM Go.Proofs Go.RowKit Go.ChangeShapes Go.WideShapes
set_option maxRecDepth 20000
def okAll (sz:TypeId→Nat) (h:Array Obj) (I:Nat→Prop):List T→List Value→Prop
 | [],us=>us=[]
 | t::ts,us=>∃ u us',us=u::us'∧okV sz h I t u []∧okAll sz h I ts us'
theorem okArgs_all {sz h I}:∀ {ar:List T} {us:List Value} (i:Nat),okAll sz h I ar us→okArgs sz h I i (ar.map A) us []
 | [],us,i,h=>⟨h,rfl⟩
 | t::ts,us,i,h=>by
  obtain ⟨u,us',rfl,h1,h2⟩:=h
  exact ⟨u,us',[],[],rfl,rfl,⟨h1,rfl⟩,okArgs_all (i+1) h2⟩
theorem law_calls {f:Nat} {ar:List T} {us:List Value} {W:Go.World} (hl:lends (E.mode f)=false) (h:fo f (ar.map A)=some (R (vB true))) (hok:okAll (szOf E) W.heap (fun b=>b < W.heap.size) ar us):
  Calls Tryz.prog f us.toArray W fun e W'=>e=.returned (.bool true)∧Below W.heap.size W W':=by
 have hs:=(orc_sound able h).1.old hl ⟨W,[],fun b=>b < W.heap.size,fun b hb=>⟨hb,by simp⟩⟩ us (by simp [Uniq]) (by simp) (okArgs_all 0 hok)
 refine Calls.mono hs fun e W' h=>?_
 match e,h with
 | .returned u,h=>
  obtain ⟨f,fo,hu,_⟩:=h.ok
  simp only [okV] at hu
  obtain ⟨rfl,_⟩:=hu
  exact ⟨rfl,⟨h.fr.os,h.fr.tape,h.fr.output,h.fr.size,fun k hk=>h.fr.block k hk (by simp)⟩⟩
section
variable {H:Type} {enc:TypeId × Value→H} {W:Go.World} {base:Nat} {n:Nat} {t:TypeId} {v:Value} {d:DataW H} {p:List MemPlace}
theorem read_struct {fs:Array Field} (hu:Tryz.prog.underlying t=some (.struct fs)) (hp:plainT (szOf E) Tryz.prog n t=true) (h:DataW.Trod enc Tryz.prog W 0 (fun _=>true) true t v d p) (hv:Value.okWide Tryz.prog W .any base t v)
  (hwt:∀ k,k∈d.weights Tryz.prog t→k≤reachBytes):∃ cs,TreeT Tryz.prog n t cs∧okV (szOf E) W.heap (fun b=>b < W.heap.size) (.agg cs) v []:=by
 simp only [Value.okWide,hu] at hv
 obtain ⟨cs,rfl,_⟩:=hv
 obtain ⟨fuel,hf0⟩:=h
 obtain ⟨ts,ht,hok⟩:=read_ok (sz:=szOf E) (I:=fun b=>b < W.heap.size) (fun b hb=>hb) n fuel t _ _ hp hf0 hwt
 exact ⟨ts,ht,by simp only [okV]; exact ⟨cs.toList,by simp,hok⟩⟩
end
end Go.TM.Ft
