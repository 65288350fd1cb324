/- The law FnExactSyncWorld returns true at every argument, and its arguments read behind the call as they read before. No condition beyond the row itself. -/
import Derived.Test.YtlmiemdojgahaaaGreatSL15
import Derived.Test.YtlmiemdojgahaaaGreatRows
import Derived.ProofKit
import Derived.SizedLaws
set_option linter.unusedSimpArgs false
set_option linter.unusedVariables false
namespace Go.Proofs.YtlmiemdojgahaaaGreat
open Go.ChangeShapes Go.WideShapes Go.ChangeAt Go.RowKit Go.TM Go.TM.Ft
theorem Tryz.own:ownKnob Tryz.prog.godebug=none:=by kernel_rfl
theorem Tryz.laidOut:laidOutB Tryz.prog=true:=by kernel_rfl
theorem plain92:plainT (szOf Ft.E) Tryz.prog 10 92=true:=by kernel_rfl
set_option maxRecDepth 100000 in
theorem sync_calls {H:Type} {enc:TypeId × Value→H} {W:Go.World} {v0:Value} {d0:DataW H} {p0:List MemPlace} {base:Nat}
  (h0:DataW.Trod enc Tryz.prog W 0 (fun _=>true) true 92 v0 d0 p0) (w0:Value.okWide Tryz.prog W .any base 92 v0) (x0:∀ k,k∈d0.weights Tryz.prog 92→k≤reachBytes)
  : Calls Tryz.prog 10 #[v0] W fun e W'=>e=.returned (.bool true)∧Below W.heap.size W W':=by
 obtain ⟨a0,t0,k0⟩:=read_struct Tryz.underlying92 plain92 h0 w0 x0
 obtain ⟨z0,rfl,f0⟩:=tree_world t0
 exact law_calls (ar:=[.agg (wTl z0)]) rfl (f_LawSync z0 f0) ⟨_,_,rfl,k0,rfl⟩
set_option maxRecDepth 100000 in
theorem sync_lifted (os:Os) (started:os.Started) (H:Type) (enc:TypeId × Value→H):
  ReturnsInHanded {} Tryz.checked os 10 .any (Rows.fnExactSyncWorldSpec.pre6 enc Tryz.prog Tryz.f10 Rows.fnExactSyncWorldRow.domain false) (Rows.fnExactSyncWorldSpec.post enc Tryz.prog Tryz.f10 false true false false):=by
 refine returnsInHanded_of_change_sized (C:=Tryz.checked) Tryz.own started (by kernel_rfl) Tryz.func10
  (ChangeSpec.witness6 (enc:=enc) (C:=Tryz.checked) false ⟨#[],#[.agg #[.slice none 0 0,.slice none 0 0,.int .i64 0,.slice none 0 0,.slice none 0 0,.slice none 0 0]],[]⟩ 8 (by kernel_rfl) (by kernel_rfl) (by kernel_rfl) (by kernel_rfl)) ?_
 intro W base args ds gs before hval0 hW hcnd hsz0 _
 have hval:∀ (j:Nat) t v,Tryz.f10.params[j]?=some t→args[j]?=some v→Value.okWide Tryz.prog W .any base t v:=hval0
 have hW':=hW
 obtain ⟨p,q,hA0,hV,rfl,hfz,hnd⟩:=hW
 have hA:DataW.TrodAll enc Tryz.prog W 0 (fun _=>true) true Tryz.f10.params.toList args.toList ds p:=hA0
 have hsz:(DataW.weightsEach Tryz.prog (Tryz.f10.params.toList++Rows.fnExactSyncWorldSpec.plain.varTypes Tryz.prog) (ds++gs)).all (·≤reachBytes)=true:=hsz0
 rw [Tryz.params10] at hA hval hsz
 obtain ⟨v0,d0,rfl,rfl,h0⟩:=trodAll_one hA
 obtain ⟨rfl,rfl⟩:=trodVars_none hV
 clear hA0 hval0 hsz0
 simp only [List.append_nil] at hW'
 have hlt:∀ x∈p,x.block < W.heap.size:=fun x hx=>by simpa using hW'.lt x hx
 have x0:∀ k,k∈d0.weights Tryz.prog 92→k≤reachBytes:=fun k hk=>by
  have:=List.all_eq_true.1 hsz k (weightsEach_mem hk (i:=0) (by rfl) (by rfl))
  simpa using this
 refine (sync_calls h0 (hval 0 92 v0 rfl rfl) x0).mono fun e W' ⟨he,hb⟩=>?_
 subst he
 refine ⟨_,rfl,[d0],[],p,[],p,[],hW',?_,?_,rfl,hb.frame _,fun h=>by cases h⟩
 ·exact trodAll_mk1 (shut_bool Tryz.underlying4 true)
 ·exact trodAll_mk1 (Below.trod Tryz.laidOut (by kernel_rfl) (of_decide_eq_true (by kernel_rfl)) h0 hb hlt)
theorem and_t {a b:Bool} (h1:a=true) (h2:b=true):(a && b)=true:=by rw [h1,h2]; rfl
set_option maxHeartbeats 40000000 in
theorem sync_holds:Rows.FnExactSyncWorldSaid:=
 OpenClaim.holds_of_wide 10 Tryz.f10 rfl rfl rfl rfl rfl rfl rfl ⟨rfl,rfl,rfl,rfl,rfl⟩ rfl rfl rfl rfl rfl (by kernel_rfl) Tryz.func10 (by
   unfold joinedFacts
   repeat' with_reducible refine and_t ?_ ?_
   all_goals as_aux_lemma=>kernel_rfl)
  (of_decide_eq_true (by kernel_rfl)) (by unfold Func.isWrapper; rw [if_neg (of_decide_eq_false (by kernel_rfl))]; exact ⟨rfl,rfl⟩)
  (fun os started H enc _=>sync_lifted os started H enc)
end Go.Proofs.YtlmiemdojgahaaaGreat
#print axioms Go.Proofs.YtlmiemdojgahaaaGreat.sync_holds
