/- The law FnExactDeskText returns true at every argument; its arguments and the package variable that it reads behind the call read as before; what the row lists of package variables is tied to the program's text by the given tie. No condition beyond the row's own. -/
import Derived.Test.YtldklhcklkaplaaGreatDoorTL9
import Derived.Test.YtldklhcklkaplaaGreatDoorTL11
set_option linter.unusedSimpArgs false
set_option linter.unusedVariables false
set_option maxHeartbeats 40000000
namespace Go.Proofs.YtldklhcklkaplaaGreatDoor
open Go Go.ChangeShapes Go.WideShapes Go.ChangeAt Go.RowKit Go.TM Go.TM.It
set_option maxRecDepth 20000
theorem Tryz.own:ownKnob Tryz.prog.godebug=none:=by kernel_rfl
theorem Tryz.laidOut:laidOutB Tryz.prog=true:=by kernel_rfl
theorem plain28:plainT (szOf It.E) Tryz.prog 9 28=true:=by kernel_rfl
theorem plain2:plainT (szOf It.E) Tryz.prog 9 2=true:=by kernel_rfl
set_option maxRecDepth 100000 in
theorem desktext_calls {H:Type} {enc:TypeId×Value→H} {W:Go.World} {v0:Value} {d0:DataW H} {p0:List MemPlace} {base:Nat} (hm:GlOk W)
  (h0:DataW.Trod enc Tryz.prog W 0 (fun _=>true) true 28 v0 d0 p0) (w0:Value.okWide Tryz.prog W .any base 28 v0) (x0:∀ k,k∈d0.weights Tryz.prog 28→k≤reachBytes)
  : Calls Tryz.prog 4 #[v0] W fun e W'=>e=.returned (.bool true)∧Below W.heap.size W W':=by
 obtain⟨a0,t0,k0⟩:=read_struct Tryz.underlying28 plain28 h0 w0 x0
 obtain⟨z0,rfl,f0⟩:=tree_desk t0
 exact law_calls (ar:=[.agg (dTl z0)]) hm rfl (f_LawDeskText z0 f0) ⟨_,_,rfl,k0,rfl⟩
set_option maxRecDepth 100000 in
theorem desktext_lifted (os:Os) (started:os.Started) (H:Type) (enc:TypeId×Value→H):
  ReturnsInHanded {} Tryz.checked os 4 .any (fun w args=>(Rows.fnExactDeskTextSpec.pre enc Tryz.prog Tryz.f4 [] false w args∧laidMetH Tryz.prog lst4 w)∧sizedMet enc Tryz.prog Tryz.f4 (OpenSpec.ofChange Rows.fnExactDeskTextSpec) false w args)
   (Rows.fnExactDeskTextSpec.post enc Tryz.prog Tryz.f4 false true false false):=by
 refine returns_laid_shaped (C:=Tryz.checked) (X:=fun w _=>laidMetH Tryz.prog lst4 w) (fun _ _ _ hh h=>h.of_heap hh) Tryz.own started (by kernel_rfl) Tryz.func4
  (ChangeSpec.witness_shaped (enc:=enc) (C:=Tryz.checked) (os:=os) (X:=fun w _=>laidMetH Tryz.prog lst4 w) false (World.laidAll Tryz.prog os lst4) #[.agg #[.slice none 0 0,.slice none 0 0,.int .i64 0,.slice none 0 0]] 8 (World.laidAll_os _ _ _) (World.shaped_of_RefB (by kernel_rfl) (by kernel_rfl)) (by kernel_rfl) (by kernel_rfl) (by kernel_rfl) (lst4_met os _)) ?_
 intro W base args ds gs before hval0 hW _ hsz0 hL hsh
 have hval:∀ (j:Nat) t v,Tryz.f4.params[j]?=some t→args[j]?=some v→Value.okWide Tryz.prog W .any base t v:=hval0
 have hW':=hW
 obtain⟨p,q,hA0,hV,rfl,hfz,hnd⟩:=hW
 have hA:DataW.TrodAll enc Tryz.prog W 0 (fun _=>true) true Tryz.f4.params.toList args.toList ds p:=hA0
 have hsz:(DataW.weightsEach Tryz.prog (Tryz.f4.params.toList++Rows.fnExactDeskTextSpec.plain.varTypes Tryz.prog) (ds++gs)).all (·≤reachBytes)=true:=hsz0
 rw[Tryz.params4] at hA hval hsz
 obtain⟨v0,d0,rfl,rfl,h0⟩:=trodAll_one hA
 have hV1:=hV
 obtain⟨g1,rfl⟩:∃ g1,gs=[g1]:=by
  match gs,hV with
  | [],h=>exact absurd h (by simp[DataW.TrodVars,Rows.fnExactDeskTextSpec])
  | [g1],_=>exact⟨g1,rfl⟩
  | _::_::_,h=>exact absurd h (by simp[DataW.TrodVars,Rows.fnExactDeskTextSpec])
 clear hA0 hval0 hsz0
 have hlt:∀ x∈p,x.block<W.heap.size:=fun x hx=>hW'.lt x (by simp only[List.mem_append] at hx ⊢;exact .inl hx)
 have x0:∀ k,k∈d0.weights Tryz.prog 28→k≤reachBytes:=fun k hk=>by
  have:=List.all_eq_true.1 hsz k (weightsEach_mem hk (i:=0) (by rfl) (by rfl))
  simpa using this
 refine (desktext_calls (glOk_of hL) h0 (hval 0 28 v0 rfl rfl) x0).mono fun e W' ⟨he,hb⟩=>?_
 subst he
 refine⟨_,rfl,[d0],[g1],p++q,[],p,q,hW',?_,?_,Below.trodVars Tryz.laidOut hb (by kernel_rfl) hV1,hb.frame _,fun h=>by cases h⟩
 ·exact trodAll_mk1 (shut_bool Tryz.underlying4 true)
 ·exact trodAll_mk1 (Below.trod Tryz.laidOut (by kernel_rfl) (of_decide_eq_true (by kernel_rfl)) h0 hb fun x hx=>hlt x (by simp[hx]))
theorem and_t {a b:Bool} (h1:a=true) (h2:b=true):(a&&b)=true:=by rw[h1,h2];rfl
theorem desktext_row:Rows.FnExactDeskTextSaid:=
 OpenClaim.holds_of_wide 4 Tryz.f4 rfl rfl rfl rfl rfl rfl rfl ⟨rfl,rfl,rfl,rfl,rfl⟩ rfl rfl rfl rfl rfl (by kernel_rfl) Tryz.func4 (by
   unfold joinedFacts
   repeat' with_reducible refine and_t ?_ ?_
   all_goals as_aux_lemma=>kernel_rfl)
  (of_decide_eq_true (by kernel_rfl)) (by unfold Func.isWrapper;rw[if_neg (of_decide_eq_false (by kernel_rfl))];exact⟨rfl,rfl⟩)
  (fun os started H enc _=>desktext_lifted os started H enc)
theorem desktext_holds:Rows.FnExactDeskTextCardSaid:=
 Claim7.holds_tied_plain_at .later [] [.data, .data, .data, .data] true (true, "9df182d417a731e15baf74acb6d6848082a2cd15f3d9d11c195f08f478750976") false
  desktext_row (fun _ h=>by cases h) (by kernel_rfl) (fun _ h=>by cases h) fnExactDeskText_row_tie rfl ⟨rfl,rfl⟩ (by kernel_rfl) rfl
  (fun f fn hf hfn=>by
   obtain rfl : f = 4 := Option.some.inj ((show Tryz.prog.funcNamed "loop.example/g00343/laws.FnExactDeskText" = some 4 by kernel_rfl).symm.trans hf) |>.symm
   obtain rfl:fn=Tryz.f4:=(Option.some.inj (Tryz.func4.symm.trans hfn)).symm
   exact⟨by kernel_rfl,fun j t ht=>by
    rw[Tryz.params4] at ht
    have hm:t∈[28]:=by simpa using Array.mem_of_getElem? ht
    have hall:([28].all fun u=>!Tryz.prog.wantsStandIn u)=true:=by kernel_rfl
    exact (show Tryz.prog.wantsStandIn t=false by simpa using List.all_eq_true.1 hall t hm)⟩)
  (by kernel_rfl)
end Go.Proofs.YtldklhcklkaplaaGreatDoor
