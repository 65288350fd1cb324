/- What functions of the program come to, by the machine. -/
import Derived.Test.YtlmiemdojgahaaaGreatL15
set_option linter.unusedSimpArgs false
set_option linter.unusedVariables false
namespace Go.TM.Ft
open Go Go.TM Go.Proofs
set_option maxRecDepth 20000
attribute [local congr] gif_cg
attribute [local simp] footOf noClash clash upsets setsHit setHits layHits layMeets setsMeet evFeet seal4_iE seal4_set clean_iE
set_option maxHeartbeats 16000000 in
theorem f_LawDone (e:Engine) (h_e:FitE e) (inst:Int) (step:Int) (vars:List Int) (h_vars:vars.length < 2 ^ 62):
  fo 7 [A (.agg (eTl e)),A (vI inst),A (vI step),A (iS vars)]=some (R (vB true)):=by
 cases c3:ltI 1048576 vars.length
 rotate_left
 ·refine orc_7 1 ?_
  simp (maxSteps:=1000000) +contextual -dsimp [Tryz.f7,c3,List.set]
 have l3:vars.length≤1048576:=by simp [ltI] at c3; omega
 have s0:=g_szEngine e (1048576) (by omega) (by omega) (fw_engine h_e)
 cases c0:ltI (subM (1048576) (wEngine e)) 0
 rotate_left
 ·refine orc_7 1 ?_
  simp (maxSteps:=1000000) +contextual -dsimp [Tryz.f7,c3,s0,c0,List.set]
 obtain ⟨p0,e0⟩:=sub_f c0
 rw [e0] at s0 c0
 have v0:wEngine e≤1048576:=by omega
 have o0:=o_toEngine e v0
 have q0:=g_eqEngine e (by omega)
 have b0:=cz_Engine e
 have o3:=o_tointS vars l3
 have q3:=g_eqintS vars (by omega)
 have b3:ctsint vars=vars.length:=rfl
 have r1:=f4_DoneInst e h_e (smE_of v0) inst step vars
 have r2:=f_DoneInst e h_e (smE_of v0) inst step vars h_vars
 have hw:wEngineResult (doneI e inst step vars)≤2097152:=(by have:=doneI_w e inst step vars; omega)
 generalize doneI e inst step vars=x at *
 have bx:=cz_EngineResult x
 have qx:=g_eqEngineResult x hw
 obtain ⟨d0,m0⟩:=o_markEngine e (1) (by omega) (by omega) (by omega)
 obtain ⟨d3,m3⟩:=o_markInt64S vars (1+(czEngine e:Nat)) (by omega) (by omega) (by omega)
 obtain ⟨dx,mx⟩:=o_markEngineResult x 1 (by omega) (by omega) hw
 have hx:=o_heldEngineResult x 1 (by omega) (by omega) hw
 rw [show (T.agg (erT (mzEngineResult 1 x)):T)=.agg [vI x.code,vI x.value,.sl 160 ((mzEngineResult 1 x).eng.procs.map (pT 124 219)),.sl 163 ((mzEngineResult 1 x).eng.insts.map xT),vI x.eng.now] from rfl] at hx
 have n1:ltI (1+(czEngine e:Nat)+(ctsint vars:Nat)) 0=false:=ltI_f (by omega)
 have n2:ltI (1+(czEngineResult x:Nat)) 0=false:=ltI_f (by omega)
 generalize 1+(czEngine e:Int)=a0 at *
 generalize mzEngine 1 e=y0 at *
 generalize a0+(ctsint vars:Int)=a3 at *
 generalize mksint a0 vars=y3 at *
 generalize 1+(czEngineResult x:Int)=ax at *
 generalize mzEngineResult 1 x=y at *
 have t0:=osealed_Proc e.procs
 have t1:=osealed_Inst e.insts
 have t2:=osealed_int vars
 have t3:=osealed_Proc x.eng.procs
 have t4:=osealed_Inst x.eng.insts
 have t5:=osealed_Proc y.eng.procs
 have t6:=osealed_Inst y.eng.insts
 refine orc_7 1 ?_
 simp (maxSteps:=4000000) +contextual -dsimp [Tryz.f7,c3,s0,c0,o0,q0,o3,q3,m0,m3,r1,r2,qx,mx,hx,n1,n2,t0,t1,t2,t3,t4,t5,t6,eqI_self,lendEff,lendOne,lendMany,firstRef,lendRow,lendCell,putRow,putBack,valArg,List.set]
end Go.TM.Ft
