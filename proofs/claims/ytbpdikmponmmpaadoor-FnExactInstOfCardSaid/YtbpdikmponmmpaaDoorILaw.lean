/- The law FnExactInstOf returns true at every argument; its argument and the package variable that it reads behind the call read as before; what the row lists of package variables is tied to the program's text by the given tie. No condition beyond the row's own. -/
import Derived.Test.YtbpdikmponmmpaaDoorIL1
import Derived.Test.YtbpdikmponmmpaaDoorIL3
import Derived.OpenVars
set_option linter.unusedSimpArgs false
set_option linter.unusedVariables false
namespace Go.Proofs.YtbpdikmponmmpaaDoor
open Go Go.ChangeShapes Go.WideShapes Go.ChangeAt Go.RowKit Go.TM Go.TM.Dw
open Go.ChangeMaps (open_string shut_string)
theorem Tryd.own:ownKnob Tryd.prog.godebug=none:=by kernel_rfl
theorem Tryd.laidOut:laidOutB Tryd.prog=true:=by kernel_rfl
theorem law_inst {W:Go.World} (hm:GlOk W) (s:ByteArray):
  Calls Tryd.prog 4 #[.string s] W fun e W'=>e=.returned (.bool true)∧Below W.heap.size W W':=
 law_calls (ar:=[vS s]) (us:=[.string s]) hm rfl (f_LawI s) ⟨_,_,rfl,by simp[okV],rfl⟩
set_option maxRecDepth 100000 in
theorem inst_lifted (os:Os) (started:os.Started) (H:Type) (enc:TypeId×Value→H):
  ReturnsInHanded {} Tryd.checked os 4 .any (fun w args=>(Rows.fnExactInstOfSpec.pre enc Tryd.prog Tryd.f4 [] false w args∧laidMetH Tryd.prog lst8 w)∧sizedMet enc Tryd.prog Tryd.f4 (OpenSpec.ofChange Rows.fnExactInstOfSpec) false w args)
   (Rows.fnExactInstOfSpec.post enc Tryd.prog Tryd.f4 false true false false):=by
 refine returns_laid_shaped (C:=Tryd.checked) (X:=fun w _=>laidMetH Tryd.prog lst8 w) (fun _ _ _ hh h=>h.of_heap hh) Tryd.own started (by kernel_rfl) Tryd.func4
  (ChangeSpec.witness_shaped (enc:=enc) (C:=Tryd.checked) (os:=os) (X:=fun w _=>laidMetH Tryd.prog lst8 w) false (World.laidAll Tryd.prog os lst8) #[.string ⟨#[]⟩] 8 (World.laidAll_os _ _ _) (World.shaped_of_RefB (by kernel_rfl) (by kernel_rfl)) (by kernel_rfl) (by kernel_rfl) (by kernel_rfl) (lst8_met os _)) ?_
 intro W base args ds gs before hval0 hW _ _ hL hsh
 have hval:∀ (j:Nat) t v,Tryd.f4.params[j]?=some t→args[j]?=some v→Value.okWide Tryd.prog W .any base t v:=hval0
 have hW':=hW
 obtain⟨p,q,hA0,hV,rfl,hfz,hnd⟩:=hW
 have hA:DataW.TrodAll enc Tryd.prog W 0 (fun _=>true) true Tryd.f4.params.toList args.toList ds p:=hA0
 rw[Tryd.params4] at hA hval
 obtain⟨v0,d0,rfl,rfl,h0⟩:=trodAll_one hA
 have hV1:=hV
 obtain⟨g1,rfl⟩:∃ g1,gs=[g1]:=by
  match gs,hV with
  | [],h=>exact absurd h (by simp[DataW.TrodVars,Rows.fnExactInstOfSpec])
  | [g1],_=>exact⟨g1,rfl⟩
  | _::_::_,h=>exact absurd h (by simp[DataW.TrodVars,Rows.fnExactInstOfSpec])
 obtain⟨s,rfl,rfl,rfl,ws⟩:=open_string Tryd.underlying9 (hval 0 9 v0 rfl rfl) h0
 clear hA0 hval0
 refine (law_inst (glOk_of hL hsh) s).mono fun e W' ⟨he,hb⟩=>?_
 subst he
 exact⟨_,rfl,_,_,_,[],[],q,hW',trodAll_mk1 (shut_bool Tryd.underlying4 true),trodAll_mk1 (shut_string Tryd.underlying9 ws),Below.trodVars Tryd.laidOut hb (by kernel_rfl) hV1,hb.frame _,fun h=>by cases h⟩
theorem inst_row:Rows.FnExactInstOfSaid:=
 OpenClaim.holds_of_wide 4 Tryd.f4 rfl rfl rfl rfl rfl rfl rfl ⟨rfl,rfl,rfl,rfl,rfl⟩ rfl rfl rfl rfl rfl (by kernel_rfl) Tryd.func4 (by kernel_rfl)
  (of_decide_eq_true (by kernel_rfl)) (by unfold Func.isWrapper;rw[if_neg (of_decide_eq_false (by kernel_rfl))];exact⟨rfl,rfl⟩)
  (fun os started H enc _=>inst_lifted os started H enc)
theorem inst_holds:Rows.FnExactInstOfCardSaid:=
 Claim7.holds_tied_plain_at .later [] [.data, .data, .data, .data, .sentinel, .sentinel, .widerDeep, .pinned] true (true, "0ac6fc0401647eba452acbbb9b9883540031d81548bed264e48a7a264fe99aea") true
  inst_row (fun _ h=>by cases h) (by kernel_rfl) (fun _ h=>by cases h) fnExactInstOf_row_tie rfl ⟨rfl,rfl⟩ (by kernel_rfl) rfl
  (fun f fn hf hfn=>by
   obtain rfl : f = 4 := Option.some.inj ((show Tryd.prog.funcNamed "loop.example/g00343/laws.FnExactInstOf" = some 4 by kernel_rfl).symm.trans hf) |>.symm
   obtain rfl:fn=Tryd.f4:=(Option.some.inj (Tryd.func4.symm.trans hfn)).symm
   exact⟨by kernel_rfl,fun j t ht=>by
    rw[Tryd.params4] at ht
    have h3:t=9:=by
     rcases j with _ | j
     ·simpa using ht.symm
     ·simp at ht
    subst h3
    exact (show Tryd.prog.wantsStandIn 9=false by kernel_rfl)⟩)
  (by kernel_rfl)
end Go.Proofs.YtbpdikmponmmpaaDoor
