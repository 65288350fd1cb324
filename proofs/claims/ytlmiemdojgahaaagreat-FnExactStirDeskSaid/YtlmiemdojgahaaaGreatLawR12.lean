/- The law FnExactStirDesk returns true at every argument, and its arguments read behind the call as they read before. No condition beyond the row itself. -/
import Derived.Test.YtlmiemdojgahaaaGreatML18
import Derived.Test.YtlmiemdojgahaaaGreatRows
import Derived.ProofKit
import Derived.SizedLaws
set_option linter.unusedSimpArgs false
set_option linter.unusedVariables false
set_option maxHeartbeats 40000000
namespace Go.Proofs.YtlmiemdojgahaaaGreat
open Go.ChangeShapes Go.WideShapes Go.ChangeAt Go.RowKit Go.TM Go.TM.Ft
theorem Tryz.own:ownKnob Tryz.prog.godebug=none:=by kernel_rfl
theorem Tryz.laidOut:laidOutB Tryz.prog=true:=by kernel_rfl
theorem f3g:lT (szOf Ft.E) Tryz.prog 9 54=true:=by kernel_rfl
theorem Lf:lT (szOf Ft.E) Tryz.prog 9 2=true:=by kernel_rfl
set_option maxRecDepth 100000 in
theorem d9d {H:Type} {enc:TypeId×Value→H} {W:Go.World} {v0 v1 v2 v3:Value} {d0 d1 d2 d3:DataW H} {p0 p1 p2 p3:List MemPlace} {base:Nat}
  (h0:DataW.Trod enc Tryz.prog W 0 (fun _=>true) true 54 v0 d0 p0) (w0:Value.okWide Tryz.prog W .any base 54 v0) (x0:∀ k,k∈d0.weights Tryz.prog 54→k≤reachBytes)
  (h1:DataW.Trod enc Tryz.prog W 0 (fun _=>true) true 2 v1 d1 p1) (w1:Value.okWide Tryz.prog W .any base 2 v1) (x1:∀ k,k∈d1.weights Tryz.prog 2→k≤reachBytes)
  (h2:DataW.Trod enc Tryz.prog W 0 (fun _=>true) true 2 v2 d2 p2) (w2:Value.okWide Tryz.prog W .any base 2 v2) (x2:∀ k,k∈d2.weights Tryz.prog 2→k≤reachBytes)
  (h3:DataW.Trod enc Tryz.prog W 0 (fun _=>true) true 2 v3 d3 p3) (w3:Value.okWide Tryz.prog W .any base 2 v3) (x3:∀ k,k∈d3.weights Tryz.prog 2→k≤reachBytes)
  : Calls Tryz.prog 12 #[v0,v1,v2,v3] W fun e W'=>e=.returned (.bool true)∧Below W.heap.size W W':=by
 obtain⟨a0,t0,k0⟩:=e9q Tryz.underlying54 f3g h0 w0 x0
 obtain⟨z0,rfl,f0⟩:=e3q t0
 obtain⟨a1,t1,k1⟩:=Vz Tryz.underlying2 Lf h1 w1 x1
 obtain⟨z1,e1,_⟩:=bU t1
 obtain rfl:=(List.cons.inj e1).1
 obtain⟨a2,t2,k2⟩:=Vz Tryz.underlying2 Lf h2 w2 x2
 obtain⟨z2,e2,_⟩:=bU t2
 obtain rfl:=(List.cons.inj e2).1
 obtain⟨a3,t3,k3⟩:=Vz Tryz.underlying2 Lf h3 w3 x3
 obtain⟨z3,e3,_⟩:=bU t3
 obtain rfl:=(List.cons.inj e3).1
 exact e0i (ar:=[.agg (zJ z0),vI z1,vI z2,vI z3]) rfl (d1w z0 f0 z1 z2 z3) ⟨_,_,rfl,k0,_,_,rfl,k1,_,_,rfl,k2,_,_,rfl,k3,rfl⟩
set_option maxRecDepth 100000 in
theorem d6s (os:Os) (started:os.Started) (H:Type) (enc:TypeId×Value→H):
  ReturnsInHanded {} Tryz.checked os 12 .any (Rows.fnExactStirDeskSpec.pre6 enc Tryz.prog Tryz.f12 Rows.fnExactStirDeskRow.domain false) (Rows.fnExactStirDeskSpec.post enc Tryz.prog Tryz.f12 false true false false):=by
 refine returnsInHanded_of_change_sized (C:=Tryz.checked) Tryz.own started (by kernel_rfl) Tryz.func12
  (ChangeSpec.witness6 (enc:=enc) (C:=Tryz.checked) false ⟨#[],#[.agg #[.slice none 0 0,.slice none 0 0,.int .i64 0,.slice none 0 0],.int .i64 0,.int .i64 0,.int .i64 0],[]⟩ 8 (by kernel_rfl) (by kernel_rfl) (by kernel_rfl) (by kernel_rfl)) ?_
 intro W base args ds gs before hval0 hW hcnd Fg _
 have T1:∀ (j:Nat) t v,Tryz.f12.params[j]?=some t→args[j]?=some v→Value.okWide Tryz.prog W .any base t v:=hval0
 have hW':=hW
 obtain⟨p,q,hA0,hV,rfl,kI,hnd⟩:=hW
 have hA:DataW.TrodAll enc Tryz.prog W 0 (fun _=>true) true Tryz.f12.params.toList args.toList ds p:=hA0
 have C7:(DataW.weightsEach Tryz.prog (Tryz.f12.params.toList++Rows.fnExactStirDeskSpec.plain.varTypes Tryz.prog) (ds++gs)).all (·≤reachBytes)=true:=Fg
 rw[Tryz.params12] at hA T1 C7
 obtain⟨v0,v1,v2,v3,d0,d1,d2,d3,p0,p1,p2,p3,rfl,rfl,rfl,h0,h1,h2,h3⟩:=trodAll_four hA
 obtain⟨rfl,rfl⟩:=trodVars_none hV
 clear hA0 hval0 Fg
 simp only[List.append_nil] at hW'
 have A1:∀ x∈p0++p1++p2++p3,x.block<W.heap.size:=fun x hx=>by simpa using hW'.lt x hx
 have x0:∀ k,k∈d0.weights Tryz.prog 54→k≤reachBytes:=fun k hk=>by
  have:=List.all_eq_true.1 C7 k (xB hk (i:=0) (by rfl) (by rfl))
  simpa using this
 have x1:∀ k,k∈d1.weights Tryz.prog 2→k≤reachBytes:=fun k hk=>by
  have:=List.all_eq_true.1 C7 k (xB hk (i:=1) (by rfl) (by rfl))
  simpa using this
 have x2:∀ k,k∈d2.weights Tryz.prog 2→k≤reachBytes:=fun k hk=>by
  have:=List.all_eq_true.1 C7 k (xB hk (i:=2) (by rfl) (by rfl))
  simpa using this
 have x3:∀ k,k∈d3.weights Tryz.prog 2→k≤reachBytes:=fun k hk=>by
  have:=List.all_eq_true.1 C7 k (xB hk (i:=3) (by rfl) (by rfl))
  simpa using this
 refine (d9d h0 (T1 0 54 v0 rfl rfl) x0 h1 (T1 1 2 v1 rfl rfl) x1 h2 (T1 2 2 v2 rfl rfl) x2 h3 (T1 3 2 v3 rfl rfl) x3).mono fun e W' ⟨he,hb⟩=>?_
 subst he
 refine⟨_,rfl,[d0,d1,d2,d3],[],p0++p1++p2++p3,[],p0++(p1++(p2++p3)),[],hW',?_,?_,rfl,hb.frame _,fun h=>by cases h⟩
 ·exact trodAll_mk1 (shut_bool Tryz.underlying4 true)
 ·exact trodAll_mk4 (Below.trod Tryz.laidOut (by kernel_rfl) (of_decide_eq_true (by kernel_rfl)) h0 hb fun x hx=>A1 x (by simp[hx])) (Below.trod Tryz.laidOut (by kernel_rfl) (of_decide_eq_true (by kernel_rfl)) h1 hb fun x hx=>A1 x (by simp[hx])) (Below.trod Tryz.laidOut (by kernel_rfl) (of_decide_eq_true (by kernel_rfl)) h2 hb fun x hx=>A1 x (by simp[hx])) (Below.trod Tryz.laidOut (by kernel_rfl) (of_decide_eq_true (by kernel_rfl)) h3 hb fun x hx=>A1 x (by simp[hx]))
theorem f1q {a b:Bool} (h1:a=true) (h2:b=true):(a&&b)=true:=by rw[h1,h2];rfl
theorem stir_holds:Rows.FnExactStirDeskSaid:=
 OpenClaim.holds_of_wide 12 Tryz.f12 rfl rfl rfl rfl rfl rfl rfl ⟨rfl,rfl,rfl,rfl,rfl⟩ rfl rfl rfl rfl rfl (by kernel_rfl) Tryz.func12 (by
   unfold joinedFacts
   repeat' with_reducible refine f1q ?_ ?_
   all_goals as_aux_lemma=>kernel_rfl)
  (of_decide_eq_true (by kernel_rfl)) (by unfold Func.isWrapper;rw[if_neg (of_decide_eq_false (by kernel_rfl))];exact⟨rfl,rfl⟩)
  (fun os started H enc _=>d6s os started H enc)
end Go.Proofs.YtlmiemdojgahaaaGreat
#print axioms Go.Proofs.YtlmiemdojgahaaaGreat.stir_holds
