/- The law FnExactTickEngine returns true at every argument, and its arguments read behind the call as they read before. No condition beyond the row itself. -/
import Derived.Test.YtlmiemdojgahaaaGreatJL15
import Derived.Test.YtlmiemdojgahaaaGreatRows
import Derived.ProofKit
import Derived.SizedLaws
set_option linter.unusedSimpArgs false
set_option linter.unusedVariables false
set_option maxHeartbeats 40000000
namespace Go.Proofs.YtlmiemdojgahaaaGreat
open Go.ChangeShapes Go.WideShapes Go.ChangeAt Go.RowKit Go.TM Go.TM.Ft
theorem Tryz.own:ownKnob Tryz.prog.godebug=none:=by kernel_rfl
theorem Tryz.laidOut:laidOutB Tryz.prog=true:=by kernel_rfl
theorem h2m:a5o (szOf Ft.E) Tryz.prog 9 51=true:=by kernel_rfl
theorem h4t:a5o (szOf Ft.E) Tryz.prog 9 2=true:=by kernel_rfl
set_option maxRecDepth 100000 in
theorem g0s {H:Type} {enc:TypeId × Value→H} {W:Go.World} {v0 v1:Value} {d0 d1:DataW H} {p0 p1:List MemPlace} {base:Nat}
  (h0:DataW.Trod enc Tryz.prog W 0 (fun _=>true) true 51 v0 d0 p0) (w0:Value.okWide Tryz.prog W .any base 51 v0) (x0:∀ k,k∈d0.weights Tryz.prog 51→k≤reachBytes)
  (h1:DataW.Trod enc Tryz.prog W 0 (fun _=>true) true 2 v1 d1 p1) (w1:Value.okWide Tryz.prog W .any base 2 v1) (x1:∀ k,k∈d1.weights Tryz.prog 2→k≤reachBytes)
  : Calls Tryz.prog 8 #[v0,v1] W fun e W'=>e=.returned (.bool true)∧Below W.heap.size W W':=by
 obtain ⟨a0,t0,k0⟩:=f8j Tryz.underlying51 h2m h0 w0 x0
 obtain ⟨z0,rfl,f0⟩:=f8i t0
 obtain ⟨a1,t1,k1⟩:=g5c Tryz.underlying2 h4t h1 w1 x1
 obtain ⟨z1,e1,_⟩:=a3l t1
 obtain rfl:=(List.cons.inj e1).1
 exact g1u (ar:=[.agg (eTl z0),vI z1]) rfl (g1t z0 f0 z1) ⟨_,_,rfl,k0,_,_,rfl,k1,rfl⟩
set_option maxRecDepth 100000 in
theorem f9f (os:Os) (started:os.Started) (H:Type) (enc:TypeId × Value→H):
  ReturnsInHanded {} Tryz.checked os 8 .any (Rows.fnExactTickEngineSpec.pre6 enc Tryz.prog Tryz.f8 Rows.fnExactTickEngineRow.domain false) (Rows.fnExactTickEngineSpec.post enc Tryz.prog Tryz.f8 false true false false):=by
 refine returnsInHanded_of_change_sized (C:=Tryz.checked) Tryz.own started (by kernel_rfl) Tryz.func8
  (ChangeSpec.witness6 (enc:=enc) (C:=Tryz.checked) false ⟨#[],#[.agg #[.slice none 0 0,.slice none 0 0,.int .i64 0],.int .i64 0],[]⟩ 8 (by kernel_rfl) (by kernel_rfl) (by kernel_rfl) (by kernel_rfl)) ?_
 intro W base args ds gs before hval0 hW hcnd hsz0 _
 have hval:∀ (j:Nat) t v,Tryz.f8.params[j]?=some t→args[j]?=some v→Value.okWide Tryz.prog W .any base t v:=hval0
 have hW':=hW
 obtain ⟨p,q,hA0,hV,rfl,hfz,hnd⟩:=hW
 have hA:DataW.TrodAll enc Tryz.prog W 0 (fun _=>true) true Tryz.f8.params.toList args.toList ds p:=hA0
 have hsz:(DataW.weightsEach Tryz.prog (Tryz.f8.params.toList++Rows.fnExactTickEngineSpec.plain.varTypes Tryz.prog) (ds++gs)).all (·≤reachBytes)=true:=hsz0
 rw [Tryz.params8] at hA hval hsz
 obtain ⟨v0,v1,d0,d1,p0,p1,rfl,rfl,rfl,h0,h1⟩:=trodAll_two hA
 obtain ⟨rfl,rfl⟩:=trodVars_none hV
 clear hA0 hval0 hsz0
 simp only [List.append_nil] at hW'
 have hlt:∀ x∈p0++p1,x.block < W.heap.size:=fun x hx=>by simpa using hW'.lt x hx
 have x0:∀ k,k∈d0.weights Tryz.prog 51→k≤reachBytes:=fun k hk=>by
  have:=List.all_eq_true.1 hsz k (b5j hk (i:=0) (by rfl) (by rfl))
  simpa using this
 have x1:∀ k,k∈d1.weights Tryz.prog 2→k≤reachBytes:=fun k hk=>by
  have:=List.all_eq_true.1 hsz k (b5j hk (i:=1) (by rfl) (by rfl))
  simpa using this
 refine (g0s h0 (hval 0 51 v0 rfl rfl) x0 h1 (hval 1 2 v1 rfl rfl) x1).mono fun e W' ⟨he,hb⟩=>?_
 subst he
 refine ⟨_,rfl,[d0,d1],[],p0++p1,[],p0++p1,[],hW',?_,?_,rfl,hb.frame _,fun h=>by cases h⟩
 ·exact trodAll_mk1 (shut_bool Tryz.underlying4 true)
 ·exact trodAll_mk2 (Below.trod Tryz.laidOut (by kernel_rfl) (of_decide_eq_true (by kernel_rfl)) h0 hb fun x hx=>hlt x (by simp [hx])) (Below.trod Tryz.laidOut (by kernel_rfl) (of_decide_eq_true (by kernel_rfl)) h1 hb fun x hx=>hlt x (by simp [hx]))
theorem h5x {a b:Bool} (h1:a=true) (h2:b=true):(a && b)=true:=by rw [h1,h2]; rfl
theorem tick_holds:Rows.FnExactTickEngineSaid:=
 OpenClaim.holds_of_wide 8 Tryz.f8 rfl rfl rfl rfl rfl rfl rfl ⟨rfl,rfl,rfl,rfl,rfl⟩ rfl rfl rfl rfl rfl (by kernel_rfl) Tryz.func8 (by
   unfold joinedFacts
   repeat' with_reducible refine h5x ?_ ?_
   all_goals as_aux_lemma=>kernel_rfl)
  (of_decide_eq_true (by kernel_rfl)) (by unfold Func.isWrapper; rw [if_neg (of_decide_eq_false (by kernel_rfl))]; exact ⟨rfl,rfl⟩)
  (fun os started H enc _=>f9f os started H enc)
end Go.Proofs.YtlmiemdojgahaaaGreat
#print axioms Go.Proofs.YtlmiemdojgahaaaGreat.tick_holds
