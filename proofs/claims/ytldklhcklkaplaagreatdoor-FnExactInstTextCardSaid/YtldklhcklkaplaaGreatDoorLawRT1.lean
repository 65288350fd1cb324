/- The law FnExactInstText returns true at every argument; its arguments and the package variable that it reads behind the call read as before; what the row lists of package variables is tied to the program's text by the given tie. No condition beyond the row's own. -/
import Derived.Test.YtldklhcklkaplaaGreatDoorTL9
import Derived.Test.YtldklhcklkaplaaGreatDoorTL11
set_option linter.unusedSimpArgs false
set_option linter.unusedVariables false
set_option maxHeartbeats 40000000
namespace Go.Proofs.YtldklhcklkaplaaGreatDoor
open Go Go.ChangeShapes Go.WideShapes Go.ChangeAt Go.RowKit Go.TM Go.TM.It
set_option maxRecDepth 20000
theorem Tryz.own:ownKnob Tryz.prog.godebug=none:=by kernel_rfl
theorem Tryz.laidOut:laidOutB Tryz.prog=true:=by kernel_rfl
theorem plain28:plainT (szOf It.E) Tryz.prog 9 28=true:=by kernel_rfl
theorem plain2:plainT (szOf It.E) Tryz.prog 9 2=true:=by kernel_rfl
set_option maxRecDepth 100000 in
theorem insttext_calls {H:Type} {enc:TypeId×Value→H} {W:Go.World} {v0 v1:Value} {d0 d1:DataW H} {p0 p1:List MemPlace} {base:Nat} (hm:GlOk W)
  (h0:DataW.Trod enc Tryz.prog W 0 (fun _=>true) true 28 v0 d0 p0) (w0:Value.okWide Tryz.prog W .any base 28 v0) (x0:∀ k,k∈d0.weights Tryz.prog 28→k≤reachBytes)
  (h1:DataW.Trod enc Tryz.prog W 0 (fun _=>true) true 2 v1 d1 p1) (w1:Value.okWide Tryz.prog W .any base 2 v1) (x1:∀ k,k∈d1.weights Tryz.prog 2→k≤reachBytes)
  : Calls Tryz.prog 3 #[v0,v1] W fun e W'=>e=.returned (.bool true)∧Below W.heap.size W W':=by
 obtain⟨a0,t0,k0⟩:=read_struct Tryz.underlying28 plain28 h0 w0 x0
 obtain⟨z0,rfl,f0⟩:=tree_desk t0
 obtain⟨a1,t1,k1⟩:=read_int Tryz.underlying2 plain2 h1 w1 x1
 obtain⟨z1,e1,_⟩:=tree_int t1
 obtain rfl:=(List.cons.inj e1).1
 exact law_calls (ar:=[.agg (dTl z0),vI z1]) hm rfl (f_LawInstText z0 f0 z1) ⟨_,_,rfl,k0,_,_,rfl,k1,rfl⟩
set_option maxRecDepth 100000 in
theorem insttext_lifted (os:Os) (started:os.Started) (H:Type) (enc:TypeId×Value→H):
  ReturnsInHanded {} Tryz.checked os 3 .any (fun w args=>(Rows.fnExactInstTextSpec.pre enc Tryz.prog Tryz.f3 [] false w args∧laidMetH Tryz.prog lst4 w)∧sizedMet enc Tryz.prog Tryz.f3 (OpenSpec.ofChange Rows.fnExactInstTextSpec) false w args)
   (Rows.fnExactInstTextSpec.post enc Tryz.prog Tryz.f3 false true false false):=by
 refine returns_laid_shaped (C:=Tryz.checked) (X:=fun w _=>laidMetH Tryz.prog lst4 w) (fun _ _ _ hh h=>h.of_heap hh) Tryz.own started (by kernel_rfl) Tryz.func3
  (ChangeSpec.witness_shaped (enc:=enc) (C:=Tryz.checked) (os:=os) (X:=fun w _=>laidMetH Tryz.prog lst4 w) false (World.laidAll Tryz.prog os lst4) #[.agg #[.slice none 0 0,.slice none 0 0,.int .i64 0,.slice none 0 0],.int .i64 0] 8 (World.laidAll_os _ _ _) (World.shaped_of_RefB (by kernel_rfl) (by kernel_rfl)) (by kernel_rfl) (by kernel_rfl) (by kernel_rfl) (lst4_met os _)) ?_
 intro W base args ds gs before hval0 hW _ hsz0 hL hsh
 have hval:∀ (j:Nat) t v,Tryz.f3.params[j]?=some t→args[j]?=some v→Value.okWide Tryz.prog W .any base t v:=hval0
 have hW':=hW
 obtain⟨p,q,hA0,hV,rfl,hfz,hnd⟩:=hW
 have hA:DataW.TrodAll enc Tryz.prog W 0 (fun _=>true) true Tryz.f3.params.toList args.toList ds p:=hA0
 have hsz:(DataW.weightsEach Tryz.prog (Tryz.f3.params.toList++Rows.fnExactInstTextSpec.plain.varTypes Tryz.prog) (ds++gs)).all (·≤reachBytes)=true:=hsz0
 rw[Tryz.params3] at hA hval hsz
 obtain⟨v0,v1,d0,d1,p0,p1,rfl,rfl,rfl,h0,h1⟩:=trodAll_two hA
 have hV1:=hV
 obtain⟨g1,rfl⟩:∃ g1,gs=[g1]:=by
  match gs,hV with
  | [],h=>exact absurd h (by simp[DataW.TrodVars,Rows.fnExactInstTextSpec])
  | [g1],_=>exact⟨g1,rfl⟩
  | _::_::_,h=>exact absurd h (by simp[DataW.TrodVars,Rows.fnExactInstTextSpec])
 clear hA0 hval0 hsz0
 have hlt:∀ x∈p0++p1,x.block<W.heap.size:=fun x hx=>hW'.lt x (by simp only[List.mem_append] at hx ⊢;exact .inl hx)
 have x0:∀ k,k∈d0.weights Tryz.prog 28→k≤reachBytes:=fun k hk=>by
  have:=List.all_eq_true.1 hsz k (weightsEach_mem hk (i:=0) (by rfl) (by rfl))
  simpa using this
 have x1:∀ k,k∈d1.weights Tryz.prog 2→k≤reachBytes:=fun k hk=>by
  have:=List.all_eq_true.1 hsz k (weightsEach_mem hk (i:=1) (by rfl) (by rfl))
  simpa using this
 refine (insttext_calls (glOk_of hL) h0 (hval 0 28 v0 rfl rfl) x0 h1 (hval 1 2 v1 rfl rfl) x1).mono fun e W' ⟨he,hb⟩=>?_
 subst he
 refine⟨_,rfl,[d0,d1],[g1],p0++p1++q,[],p0++p1,q,hW',?_,?_,Below.trodVars Tryz.laidOut hb (by kernel_rfl) hV1,hb.frame _,fun h=>by cases h⟩
 ·exact trodAll_mk1 (shut_bool Tryz.underlying4 true)
 ·exact trodAll_mk2 (Below.trod Tryz.laidOut (by kernel_rfl) (of_decide_eq_true (by kernel_rfl)) h0 hb fun x hx=>hlt x (by simp[hx])) (Below.trod Tryz.laidOut (by kernel_rfl) (of_decide_eq_true (by kernel_rfl)) h1 hb fun x hx=>hlt x (by simp[hx]))
theorem and_t {a b:Bool} (h1:a=true) (h2:b=true):(a&&b)=true:=by rw[h1,h2];rfl
theorem insttext_row:Rows.FnExactInstTextSaid:=
 OpenClaim.holds_of_wide 3 Tryz.f3 rfl rfl rfl rfl rfl rfl rfl ⟨rfl,rfl,rfl,rfl,rfl⟩ rfl rfl rfl rfl rfl (by kernel_rfl) Tryz.func3 (by
   unfold joinedFacts
   repeat' with_reducible refine and_t ?_ ?_
   all_goals as_aux_lemma=>kernel_rfl)
  (of_decide_eq_true (by kernel_rfl)) (by unfold Func.isWrapper;rw[if_neg (of_decide_eq_false (by kernel_rfl))];exact⟨rfl,rfl⟩)
  (fun os started H enc _=>insttext_lifted os started H enc)
theorem insttext_holds:Rows.FnExactInstTextCardSaid:=
 Claim7.holds_tied_plain_at .later [] [.data, .data, .data, .data] true (true, "9df182d417a731e15baf74acb6d6848082a2cd15f3d9d11c195f08f478750976") false
  insttext_row (fun _ h=>by cases h) (by kernel_rfl) (fun _ h=>by cases h) fnExactInstText_row_tie rfl ⟨rfl,rfl⟩ (by kernel_rfl) rfl
  (fun f fn hf hfn=>by
   obtain rfl : f = 3 := Option.some.inj ((show Tryz.prog.funcNamed "loop.example/g00343/laws.FnExactInstText" = some 3 by kernel_rfl).symm.trans hf) |>.symm
   obtain rfl:fn=Tryz.f3:=(Option.some.inj (Tryz.func3.symm.trans hfn)).symm
   exact⟨by kernel_rfl,fun j t ht=>by
    rw[Tryz.params3] at ht
    have hm:t∈[28,2]:=by simpa using Array.mem_of_getElem? ht
    have hall:([28,2].all fun u=>!Tryz.prog.wantsStandIn u)=true:=by kernel_rfl
    exact (show Tryz.prog.wantsStandIn t=false by simpa using List.all_eq_true.1 hall t hm)⟩)
  (by kernel_rfl)
end Go.Proofs.YtldklhcklkaplaaGreatDoor
