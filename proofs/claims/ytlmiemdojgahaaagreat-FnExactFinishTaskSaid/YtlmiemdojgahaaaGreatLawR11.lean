/- The law FnExactFinishTask returns true at every argument, and its arguments read behind the call as they read before. No condition beyond the row itself. -/
import Derived.Test.YtlmiemdojgahaaaGreatKL18
import Derived.Test.YtlmiemdojgahaaaGreatRows
set_option linter.unusedSimpArgs false
set_option linter.unusedVariables false
set_option maxHeartbeats 40000000
namespace Go.Proofs.YtlmiemdojgahaaaGreat
open Go.ChangeShapes Go.WideShapes Go.ChangeAt Go.RowKit Go.TM Go.TM.Ft
theorem Tryz.own:ownKnob Tryz.prog.godebug=none:=by kernel_rfl
theorem Tryz.laidOut:laidOutB Tryz.prog=true:=by kernel_rfl
theorem i2p:a3x (szOf Ft.E) Tryz.prog 9 54=true:=by kernel_rfl
theorem c8s:a3x (szOf Ft.E) Tryz.prog 9 2=true:=by kernel_rfl
theorem i2q:a3x (szOf Ft.E) Tryz.prog 9 23=true:=by kernel_rfl
set_option maxRecDepth 100000 in
theorem g5m {H:Type} {enc:TypeId × Value→H} {W:Go.World} {v0 v1 v2 v3 v4:Value} {d0 d1 d2 d3 d4:DataW H} {p0 p1 p2 p3 p4:List MemPlace} {base:Nat}
  (h0:DataW.Trod enc Tryz.prog W 0 (fun _=>true) true 54 v0 d0 p0) (w0:Value.okWide Tryz.prog W .any base 54 v0) (x0:∀ k,k∈d0.weights Tryz.prog 54→k≤reachBytes)
  (h1:DataW.Trod enc Tryz.prog W 0 (fun _=>true) true 2 v1 d1 p1) (w1:Value.okWide Tryz.prog W .any base 2 v1) (x1:∀ k,k∈d1.weights Tryz.prog 2→k≤reachBytes)
  (h2:DataW.Trod enc Tryz.prog W 0 (fun _=>true) true 2 v2 d2 p2) (w2:Value.okWide Tryz.prog W .any base 2 v2) (x2:∀ k,k∈d2.weights Tryz.prog 2→k≤reachBytes)
  (h3:DataW.Trod enc Tryz.prog W 0 (fun _=>true) true 2 v3 d3 p3) (w3:Value.okWide Tryz.prog W .any base 2 v3) (x3:∀ k,k∈d3.weights Tryz.prog 2→k≤reachBytes)
  (h4:DataW.Trod enc Tryz.prog W 0 (fun _=>true) true 23 v4 d4 p4) (w4:Value.okWide Tryz.prog W .any base 23 v4) (x4:∀ k,k∈d4.weights Tryz.prog 23→k≤reachBytes)
  : Calls Tryz.prog 11 #[v0,v1,v2,v3,v4] W fun e W'=>e=.returned (.bool true)∧Below W.heap.size W W':=by
 obtain ⟨a0,t0,k0⟩:=g6f Tryz.underlying54 i2p h0 w0 x0;obtain ⟨z0,rfl,f0⟩:=h0l t0;obtain ⟨a1,t1,k1⟩:=c5f Tryz.underlying2 c8s h1 w1 x1;obtain ⟨z1,e1,_⟩:=a0k t1;obtain rfl:=(List.cons.inj e1).1;obtain ⟨a2,t2,k2⟩:=c5f Tryz.underlying2 c8s h2 w2 x2;obtain ⟨z2,e2,_⟩:=a0k t2;obtain rfl:=(List.cons.inj e2).1;obtain ⟨a3,t3,k3⟩:=c5f Tryz.underlying2 c8s h3 w3 x3;obtain ⟨z3,e3,_⟩:=a0k t3;obtain rfl:=(List.cons.inj e3).1;obtain ⟨a4,t4,k4⟩:=g7v Tryz.underlying23 i2q h4 w4 x4;obtain ⟨z4,e4,l4⟩:=b7p t4;obtain rfl:=(List.cons.inj e4).1;exact h0n (ar:=[.agg (dTl z0),vI z1,vI z2,vI z3,iS z4]) rfl (g6e z0 f0 z1 z2 z3 z4 l4) ⟨_,_,rfl,k0,_,_,rfl,k1,_,_,rfl,k2,_,_,rfl,k3,_,_,rfl,k4,rfl⟩
set_option maxRecDepth 100000 in
theorem g4o (os:Os) (started:os.Started) (H:Type) (enc:TypeId × Value→H):
  ReturnsInHanded {} Tryz.checked os 11 .any (Rows.fnExactFinishTaskSpec.pre6 enc Tryz.prog Tryz.f11 Rows.fnExactFinishTaskRow.domain false) (Rows.fnExactFinishTaskSpec.post enc Tryz.prog Tryz.f11 false true false false):=by
 refine returnsInHanded_of_change_sized (C:=Tryz.checked) Tryz.own started (by kernel_rfl) Tryz.func11
  (ChangeSpec.witness6 (enc:=enc) (C:=Tryz.checked) false ⟨#[],#[.agg #[.slice none 0 0,.slice none 0 0,.int .i64 0,.slice none 0 0],.int .i64 0,.int .i64 0,.int .i64 0,.slice none 0 0],[]⟩ 8 (by kernel_rfl) (by kernel_rfl) (by kernel_rfl) (by kernel_rfl)) ?_
 intro W base args ds gs before hval0 hW hcnd hsz0 _;have hval:∀ (j:Nat) t v,Tryz.f11.params[j]?=some t→args[j]?=some v→Value.okWide Tryz.prog W .any base t v:=hval0;have hW':=hW;obtain ⟨p,q,hA0,hV,rfl,hfz,hnd⟩:=hW;have hA:DataW.TrodAll enc Tryz.prog W 0 (fun _=>true) true Tryz.f11.params.toList args.toList ds p:=hA0;have hsz:(DataW.weightsEach Tryz.prog (Tryz.f11.params.toList++Rows.fnExactFinishTaskSpec.plain.varTypes Tryz.prog) (ds++gs)).all (·≤reachBytes)=true:=hsz0;rw[Tryz.params11] at hA hval hsz;obtain ⟨v0,v1,v2,v3,v4,d0,d1,d2,d3,d4,p0,p1,p2,p3,p4,rfl,rfl,rfl,h0,h1,h2,h3,h4⟩:=g5b hA;obtain ⟨rfl,rfl⟩:=trodVars_none hV;clear hA0 hval0 hsz0;simp only[List.append_nil] at hW';have hlt:∀ x∈p0++p1++p2++p3++p4,x.block < W.heap.size:=fun x hx=>by simpa using hW'.lt x hx
 have x0:∀ k,k∈d0.weights Tryz.prog 54→k≤reachBytes:=fun k hk=>by
  have:=List.all_eq_true.1 hsz k (b0b hk (i:=0) (by rfl) (by rfl));simpa using this
 have x1:∀ k,k∈d1.weights Tryz.prog 2→k≤reachBytes:=fun k hk=>by
  have:=List.all_eq_true.1 hsz k (b0b hk (i:=1) (by rfl) (by rfl));simpa using this
 have x2:∀ k,k∈d2.weights Tryz.prog 2→k≤reachBytes:=fun k hk=>by
  have:=List.all_eq_true.1 hsz k (b0b hk (i:=2) (by rfl) (by rfl));simpa using this
 have x3:∀ k,k∈d3.weights Tryz.prog 2→k≤reachBytes:=fun k hk=>by
  have:=List.all_eq_true.1 hsz k (b0b hk (i:=3) (by rfl) (by rfl));simpa using this
 have x4:∀ k,k∈d4.weights Tryz.prog 23→k≤reachBytes:=fun k hk=>by
  have:=List.all_eq_true.1 hsz k (b0b hk (i:=4) (by rfl) (by rfl));simpa using this
 refine (g5m h0 (hval 0 54 v0 rfl rfl) x0 h1 (hval 1 2 v1 rfl rfl) x1 h2 (hval 2 2 v2 rfl rfl) x2 h3 (hval 3 2 v3 rfl rfl) x3 h4 (hval 4 23 v4 rfl rfl) x4).mono fun e W' ⟨he,hb⟩=>?_;subst he
 refine ⟨_,rfl,[d0,d1,d2,d3,d4],[],p0++p1++p2++p3++p4,[],p0++(p1++(p2++(p3++p4))),[],hW',?_,?_,rfl,hb.frame _,fun h=>by cases h⟩
 ·exact trodAll_mk1 (shut_bool Tryz.underlying4 true)
 ·exact g6g (Below.trod Tryz.laidOut (by kernel_rfl) (of_decide_eq_true (by kernel_rfl)) h0 hb fun x hx=>hlt x (by simp[hx])) (Below.trod Tryz.laidOut (by kernel_rfl) (of_decide_eq_true (by kernel_rfl)) h1 hb fun x hx=>hlt x (by simp[hx])) (Below.trod Tryz.laidOut (by kernel_rfl) (of_decide_eq_true (by kernel_rfl)) h2 hb fun x hx=>hlt x (by simp[hx])) (Below.trod Tryz.laidOut (by kernel_rfl) (of_decide_eq_true (by kernel_rfl)) h3 hb fun x hx=>hlt x (by simp[hx])) (Below.trod Tryz.laidOut (by kernel_rfl) (of_decide_eq_true (by kernel_rfl)) h4 hb fun x hx=>hlt x (by simp[hx]))
theorem i6y {a b:Bool} (h1:a=true) (h2:b=true):(a && b)=true:=by rw[h1,h2];rfl
theorem finish_holds:Rows.FnExactFinishTaskSaid:=
 OpenClaim.holds_of_wide 11 Tryz.f11 rfl rfl rfl rfl rfl rfl rfl ⟨rfl,rfl,rfl,rfl,rfl⟩ rfl rfl rfl rfl rfl (by kernel_rfl) Tryz.func11 (by
   unfold joinedFacts
   repeat' with_reducible refine i6y ?_ ?_
   all_goals as_aux_lemma=>kernel_rfl)
  (of_decide_eq_true (by kernel_rfl)) (by unfold Func.isWrapper;rw[if_neg (of_decide_eq_false (by kernel_rfl))];exact ⟨rfl,rfl⟩)
  (fun os started H enc _=>g4o os started H enc)
end Go.Proofs.YtlmiemdojgahaaaGreat
#print axioms Go.Proofs.YtlmiemdojgahaaaGreat.finish_holds
