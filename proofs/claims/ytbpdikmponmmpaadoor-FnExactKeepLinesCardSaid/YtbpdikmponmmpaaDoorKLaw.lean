/- The law FnExactKeepLines returns true at every argument; its arguments and the package variable that it reads behind the call read as before; what the row lists of package variables is tied to the program's text by the given tie. No condition beyond the row's own. -/
import Derived.Test.YtbpdikmponmmpaaDoorKL2
import Derived.Test.YtbpdikmponmmpaaDoorKL4
import Derived.OpenVars
import Derived.ProofKit
set_option linter.unusedSimpArgs false
set_option linter.unusedVariables false
namespace Go.Proofs.YtbpdikmponmmpaaDoor
open Go Go.ChangeShapes Go.WideShapes Go.ChangeAt Go.RowKit Go.TM Go.TM.Dw
set_option maxRecDepth 20000
theorem Tryd.own:ownKnob Tryd.prog.godebug=none:=by kernel_rfl
theorem Tryd.laidOut:laidOutB Tryd.prog=true:=by kernel_rfl
theorem plain22:plainT (szOf Dw.E) Tryd.prog 9 22=true:=by kernel_rfl
theorem plain2:plainT (szOf Dw.E) Tryd.prog 9 2=true:=by kernel_rfl
theorem words_of:∀ {es:List (List T)},(∀ c,c∈es→∃ s:ByteArray,c=wT s∧s.size<2 ^ 62)→∃ l:List ByteArray,es=l.map wT∧∀ s,s∈l→s.size<2 ^ 62
 | [],_=>⟨[],rfl,fun s hs=>by simp at hs⟩
 | c::es,h=>by
  obtain⟨s,rfl,h1⟩:=h c (by simp)
  obtain⟨l,rfl,h2⟩:=words_of (es:=es) fun d hd=>h d (by simp[hd])
  refine⟨s::l,rfl,fun x hx=>?_⟩
  rcases List.mem_cons.1 hx with rfl | hx
  ·exact h1
  ·exact h2 x hx
theorem tree_words {n:Nat} {ts:List T} (h:TreeT Tryd.prog (n+2) 22 ts):∃ l:List ByteArray,ts=[.sl 9 (l.map wT)]∧l.length<2 ^ 62∧∀ s,s∈l→s.size<2 ^ 62:=by
 unfold TreeT at h
 rw[Tryd.underlying22] at h
 obtain⟨es,rfl,hl,h2⟩:=h
 obtain⟨l,rfl,hp⟩:=words_of (es:=es) fun c hc=>by
  have:=h2 c hc
  unfold TreeT at this
  rw[Tryd.underlying9] at this
  obtain⟨s,rfl,l3⟩:=this
  exact⟨s,rfl,by unfold reachBytes at l3;omega⟩
 exact⟨l,rfl,by simp at hl;unfold reachBytes at hl;omega,hp⟩
theorem tree_num {n:Nat} {ts:List T} (h:TreeT Tryd.prog (n+1) 2 ts):∃ x,ts=[vI x]:=by
 unfold TreeT at h
 rw[Tryd.underlying2] at h
 obtain⟨x,rfl,_⟩:=h
 exact⟨x,rfl⟩
section
variable {H:Type} {enc:TypeId×Value→H} {W:Go.World} {base:Nat} {n:Nat} {t:TypeId} {v:Value} {d:DataW H} {p:List MemPlace}
theorem read_cell (hp:plainT (szOf Dw.E) Tryd.prog n t=true) (h:DataW.Trod enc Tryd.prog W 0 (fun _=>true) true t v d p) (hv:v.cells=#[v]) (hwt:∀ k,k∈d.weights Tryd.prog t→k≤reachBytes):
  ∃ a,TreeT Tryd.prog n t [a]∧okV (szOf Dw.E) W.heap (fun b=>b<W.heap.size) a v []:=by
 obtain⟨ts,ht,hok⟩:=read_arg (sz:=szOf Dw.E) (I:=fun b=>b<W.heap.size) (fun b hb=>hb) hp h hv hwt
 match ts,hok with
 | [],hok=>simp[okL] at hok
 | a::ts,hok=>
  simp only[okL] at hok
  obtain⟨u,us',f1,f2,e1,e2,h1,h2⟩:=hok
  obtain⟨rfl,rfl⟩:=List.cons.inj e1
  obtain⟨rfl,rfl⟩:=List.append_eq_nil_iff.1 e2.symm
  cases ts with
  | nil=>exact⟨a,ht,h1⟩
  | cons b ts=>simp[okL] at h2
end
theorem law_keep {H:Type} {enc:TypeId×Value→H} {W:Go.World} {v0 v1:Value} {d0 d1:DataW H} {p0 p1:List MemPlace} {base:Nat} (hm:GlOk W)
  (h0:DataW.Trod enc Tryd.prog W 0 (fun _=>true) true 22 v0 d0 p0) (w0:Value.okWide Tryd.prog W .any base 22 v0) (x0:∀ k,k∈d0.weights Tryd.prog 22→k≤reachBytes)
  (h1:DataW.Trod enc Tryd.prog W 0 (fun _=>true) true 2 v1 d1 p1) (w1:Value.okWide Tryd.prog W .any base 2 v1) (x1:∀ k,k∈d1.weights Tryd.prog 2→k≤reachBytes):
  Calls Tryd.prog 5 #[v0,v1] W fun e W'=>e=.returned (.bool true)∧Below W.heap.size W W':=by
 obtain⟨a,len,cap,rfl⟩:=okWide_slice Tryd.underlying22 w0
 obtain⟨m,rfl⟩:=okWide_int Tryd.underlying2 w1
 obtain⟨a0,t0,k0⟩:=read_cell plain22 h0 rfl x0
 obtain⟨z0,e0,f0,f1⟩:=tree_words t0
 obtain rfl:=(List.cons.inj e0).1
 obtain⟨a1,t1,k1⟩:=read_cell plain2 h1 rfl x1
 obtain⟨z1,e1⟩:=tree_num t1
 obtain rfl:=(List.cons.inj e1).1
 exact law_calls (ar:=[.sl 9 (z0.map wT),vI z1]) hm rfl (f_LawK z0 z1 f0 f1) ⟨_,_,rfl,k0,_,_,rfl,k1,rfl⟩
set_option maxRecDepth 100000 in
theorem keep_lifted (os:Os) (started:os.Started) (H:Type) (enc:TypeId×Value→H):
  ReturnsInHanded {} Tryd.checked os 5 .any (fun w args=>(Rows.fnExactKeepLinesSpec.pre enc Tryd.prog Tryd.f5 [] false w args∧laidMetH Tryd.prog lst8 w)∧sizedMet enc Tryd.prog Tryd.f5 (OpenSpec.ofChange Rows.fnExactKeepLinesSpec) false w args)
   (Rows.fnExactKeepLinesSpec.post enc Tryd.prog Tryd.f5 false true false false):=by
 refine returns_laid_shaped (C:=Tryd.checked) (X:=fun w _=>laidMetH Tryd.prog lst8 w) (fun _ _ _ hh h=>h.of_heap hh) Tryd.own started (by kernel_rfl) Tryd.func5
  (ChangeSpec.witness_shaped (enc:=enc) (C:=Tryd.checked) (os:=os) (X:=fun w _=>laidMetH Tryd.prog lst8 w) false (World.laidAll Tryd.prog os lst8) #[.slice none 0 0,.int .i64 0] 8 (World.laidAll_os _ _ _) (World.shaped_of_RefB (by kernel_rfl) (by kernel_rfl)) (by kernel_rfl) (by kernel_rfl) (by kernel_rfl) (lst8_met os _)) ?_
 intro W base args ds gs before hval0 hW _ hsz0 hL hsh
 have hval:∀ (j:Nat) t v,Tryd.f5.params[j]?=some t→args[j]?=some v→Value.okWide Tryd.prog W .any base t v:=hval0
 have hW':=hW
 obtain⟨p,q,hA0,hV,rfl,hfz,hnd⟩:=hW
 have hA:DataW.TrodAll enc Tryd.prog W 0 (fun _=>true) true Tryd.f5.params.toList args.toList ds p:=hA0
 have hsz:(DataW.weightsEach Tryd.prog (Tryd.f5.params.toList++Rows.fnExactKeepLinesSpec.plain.varTypes Tryd.prog) (ds++gs)).all (·≤reachBytes)=true:=hsz0
 rw[Tryd.params5] at hA hval hsz
 obtain⟨v0,v1,d0,d1,p0,p1,rfl,rfl,rfl,h0,h1⟩:=trodAll_two hA
 have hV1:=hV
 obtain⟨g1,rfl⟩:∃ g1,gs=[g1]:=by
  match gs,hV with
  | [],h=>exact absurd h (by simp[DataW.TrodVars,Rows.fnExactKeepLinesSpec])
  | [g1],_=>exact⟨g1,rfl⟩
  | _::_::_,h=>exact absurd h (by simp[DataW.TrodVars,Rows.fnExactKeepLinesSpec])
 clear hA0 hval0 hsz0
 have hlt:∀ x∈p0++p1,x.block<W.heap.size:=fun x hx=>hW'.lt x (by simp only[List.mem_append] at hx ⊢;exact .inl hx)
 have x0:∀ k,k∈d0.weights Tryd.prog 22→k≤reachBytes:=fun k hk=>by
  have:=List.all_eq_true.1 hsz k (weightsEach_mem hk (i:=0) (by rfl) (by rfl))
  simpa using this
 have x1:∀ k,k∈d1.weights Tryd.prog 2→k≤reachBytes:=fun k hk=>by
  have:=List.all_eq_true.1 hsz k (weightsEach_mem hk (i:=1) (by rfl) (by rfl))
  simpa using this
 refine (law_keep (glOk_of hL hsh) h0 (hval 0 22 v0 rfl rfl) x0 h1 (hval 1 2 v1 rfl rfl) x1).mono fun e W' ⟨he,hb⟩=>?_
 subst he
 refine⟨_,rfl,[d0,d1],[g1],p0++p1++q,[],p0++p1,q,hW',?_,?_,Below.trodVars Tryd.laidOut hb (by kernel_rfl) hV1,hb.frame _,fun h=>by cases h⟩
 ·exact trodAll_mk1 (shut_bool Tryd.underlying4 true)
 ·exact trodAll_mk2 (Below.trod Tryd.laidOut (by kernel_rfl) (of_decide_eq_true (by kernel_rfl)) h0 hb fun x hx=>hlt x (by simp[hx])) (Below.trod Tryd.laidOut (by kernel_rfl) (of_decide_eq_true (by kernel_rfl)) h1 hb fun x hx=>hlt x (by simp[hx]))
theorem keep_row:Rows.FnExactKeepLinesSaid:=
 OpenClaim.holds_of_wide 5 Tryd.f5 rfl rfl rfl rfl rfl rfl rfl ⟨rfl,rfl,rfl,rfl,rfl⟩ rfl rfl rfl rfl rfl (by kernel_rfl) Tryd.func5 (by kernel_rfl)
  (of_decide_eq_true (by kernel_rfl)) (by unfold Func.isWrapper;rw[if_neg (of_decide_eq_false (by kernel_rfl))];exact⟨rfl,rfl⟩)
  (fun os started H enc _=>keep_lifted os started H enc)
theorem keep_holds:Rows.FnExactKeepLinesCardSaid:=
 Claim7.holds_tied_plain_at .later [] [.data, .data, .data, .data, .sentinel, .sentinel, .widerDeep, .pinned] true (true, "0ac6fc0401647eba452acbbb9b9883540031d81548bed264e48a7a264fe99aea") true
  keep_row (fun _ h=>by cases h) (by kernel_rfl) (fun _ h=>by cases h) fnExactKeepLines_row_tie rfl ⟨rfl,rfl⟩ (by kernel_rfl) rfl
  (fun f fn hf hfn=>by
   obtain rfl : f = 5 := Option.some.inj ((show Tryd.prog.funcNamed "loop.example/g00343/laws.FnExactKeepLines" = some 5 by kernel_rfl).symm.trans hf) |>.symm
   obtain rfl:fn=Tryd.f5:=(Option.some.inj (Tryd.func5.symm.trans hfn)).symm
   exact⟨by kernel_rfl,fun j t ht=>by
    rw[Tryd.params5] at ht
    have hm:t∈[22,2]:=by simpa using Array.mem_of_getElem? ht
    have hall:([22,2].all fun u=>!Tryd.prog.wantsStandIn u)=true:=by kernel_rfl
    exact (show Tryd.prog.wantsStandIn t=false by simpa using List.all_eq_true.1 hall t hm)⟩)
  (by kernel_rfl)
end Go.Proofs.YtbpdikmponmmpaaDoor
