/- The laws FnExactLiveRight and FnExactCountOpen return true at every argument, and their argument reads behind the call as it read before. No condition beyond the rows themselves. -/
import Derived.Test.YtelhpkghpoldlaaGreatL4
import Derived.Test.YtelhpkghpoldlaaGreatRows
import Derived.ProofKit
import Derived.SizedLaws

namespace Go.Proofs.YtelhpkghpoldlaaGreat
open Go.ChangeShapes Go.WideShapes Go.ChangeAt Go.RowKit Go.TM Go.TM.Lr

theorem Tryz.own : ownKnob Tryz.prog.godebug = none := by kernel_rfl
theorem Tryz.laidOut : laidOutB Tryz.prog = true := by kernel_rfl

set_option maxRecDepth 100000 in
/-- What the machine says of a call with one desk holds of every desk that is read. -/
theorem desk_calls {f : Nat} (hlaw : ∀ d, FitD d → orc Lr.E f [A (.agg (dTl d))] = some (R (vB true))) {H : Type} {enc : TypeId × Value → H} {W : World} {v0 : Value} {d0 : DataW H} {p : List MemPlace} {base : Nat}
    (h0 : DataW.Trod enc Tryz.prog W 0 (fun _ => true) true 28 v0 d0 p) (hv : Value.okWide Tryz.prog W .any base 28 v0) (hwt : ∀ k, k ∈ d0.weights Tryz.prog 28 → k ≤ reachBytes) :
    Calls Tryz.prog f #[v0] W fun e W' => e = .returned (.bool true) ∧ Below W.heap.size W W' := by
  simp only [Value.okWide, Tryz.underlying28] at hv
  obtain ⟨cs, rfl, _⟩ := hv
  obtain ⟨fuel, hf0⟩ := h0
  obtain ⟨ts, ht, hok⟩ := read_ok (sz := szOf Lr.E) (I := fun b => b < W.heap.size) (fun b hb => hb) 9 fuel 28 _ _ arg_plain hf0 hwt
  obtain ⟨d, rfl, hd⟩ := tree_desk ht
  have hs := (orc_sound able (hlaw d hd)).1 ⟨W, [], fun b => b < W.heap.size, fun b hb => ⟨hb, by simp⟩⟩ [.agg cs] (by simp [Uniq]) (by simp)
    ⟨_, [], [], [], rfl, rfl, ⟨⟨cs.toList, by simp, hok⟩, rfl⟩, ⟨rfl, rfl⟩⟩
  refine Calls.mono hs fun e W' h => ?_
  match e, h with
  | .returned u, h =>
    obtain ⟨f, fo, hu, _⟩ := h.ok
    simp only [okV] at hu
    obtain ⟨rfl, _⟩ := hu
    exact ⟨rfl, ⟨h.fr.os, h.fr.tape, h.fr.output, h.fr.size, fun k hk => h.fr.block k hk (by simp)⟩⟩

set_option maxRecDepth 100000 in
theorem live_lifted (os : Os) (started : os.Started) (H : Type) (enc : TypeId × Value → H) :
    ReturnsInHanded {} Tryz.checked os 3 .any (Rows.fnExactLiveRightSpec.pre6 enc Tryz.prog Tryz.f3 Rows.fnExactLiveRightRow.domain false) (Rows.fnExactLiveRightSpec.post enc Tryz.prog Tryz.f3 false true false false) := by
  refine returnsInHanded_of_change_sized (C := Tryz.checked) Tryz.own started (by kernel_rfl) Tryz.func3
    (ChangeSpec.witness6 (enc := enc) (C := Tryz.checked) false ⟨#[], #[.agg #[.slice none 0 0, .slice none 0 0, .int .i64 0, .slice none 0 0]], []⟩ 8 (by kernel_rfl) (by kernel_rfl) (by kernel_rfl) (by kernel_rfl)) ?_
  intro W base args ds gs before hval0 hW hcnd hsz0 _
  have hval : ∀ (j : Nat) t v, Tryz.f3.params[j]? = some t → args[j]? = some v → Value.okWide Tryz.prog W .any base t v := hval0
  have hW' := hW
  obtain ⟨p, q, hA0, hV, rfl, hfz, hnd⟩ := hW
  have hA : DataW.TrodAll enc Tryz.prog W 0 (fun _ => true) true Tryz.f3.params.toList args.toList ds p := hA0
  have hsz : (DataW.weightsEach Tryz.prog (Tryz.f3.params.toList ++ Rows.fnExactLiveRightSpec.plain.varTypes Tryz.prog) (ds ++ gs)).all (· ≤ reachBytes) = true := hsz0
  rw [Tryz.params3] at hA hval hsz
  obtain ⟨v0, d0, rfl, rfl, h0⟩ := trodAll_one hA
  obtain ⟨rfl, rfl⟩ := trodVars_none hV
  clear hA0 hval0 hsz0
  simp only [List.append_nil] at hW'
  have hlt : ∀ x ∈ p, x.block < W.heap.size := fun x hx => by simpa using hW'.lt x hx
  have hwt : ∀ k, k ∈ d0.weights Tryz.prog 28 → k ≤ reachBytes := fun k hk => by
    have := List.all_eq_true.1 hsz k (weightsEach_mem hk (i := 0) (by rfl) (by rfl))
    simpa using this
  refine (desk_calls (f := 3) f_LawLive h0 (hval 0 28 v0 rfl rfl) hwt).mono fun e W' ⟨he, hb⟩ => ?_
  subst he
  refine ⟨_, rfl, [d0], [], p, [], p, [], hW', ?_, ?_, rfl, hb.frame _, fun h => by cases h⟩
  · exact trodAll_mk1 (shut_bool Tryz.underlying4 true)
  · exact trodAll_mk1 (Below.trod Tryz.laidOut (by kernel_rfl) (of_decide_eq_true (by kernel_rfl)) h0 hb hlt)

theorem live_holds : Rows.FnExactLiveRightSaid :=
  OpenClaim.holds_of_wide 3 Tryz.f3 rfl rfl rfl rfl rfl rfl rfl ⟨rfl, rfl, rfl, rfl, rfl⟩ rfl rfl rfl rfl rfl (by kernel_rfl) Tryz.func3 (by kernel_rfl)
    (of_decide_eq_true (by kernel_rfl)) (by unfold Func.isWrapper; rw [if_neg (of_decide_eq_false (by kernel_rfl))]; exact ⟨rfl, rfl⟩)
    (fun os started H enc _ => live_lifted os started H enc)

set_option maxRecDepth 100000 in
theorem count_lifted (os : Os) (started : os.Started) (H : Type) (enc : TypeId × Value → H) :
    ReturnsInHanded {} Tryz.checked os 4 .any (Rows.fnExactCountOpenSpec.pre6 enc Tryz.prog Tryz.f4 Rows.fnExactCountOpenRow.domain false) (Rows.fnExactCountOpenSpec.post enc Tryz.prog Tryz.f4 false true false false) := by
  refine returnsInHanded_of_change_sized (C := Tryz.checked) Tryz.own started (by kernel_rfl) Tryz.func4
    (ChangeSpec.witness6 (enc := enc) (C := Tryz.checked) false ⟨#[], #[.agg #[.slice none 0 0, .slice none 0 0, .int .i64 0, .slice none 0 0]], []⟩ 8 (by kernel_rfl) (by kernel_rfl) (by kernel_rfl) (by kernel_rfl)) ?_
  intro W base args ds gs before hval0 hW hcnd hsz0 _
  have hval : ∀ (j : Nat) t v, Tryz.f4.params[j]? = some t → args[j]? = some v → Value.okWide Tryz.prog W .any base t v := hval0
  have hW' := hW
  obtain ⟨p, q, hA0, hV, rfl, hfz, hnd⟩ := hW
  have hA : DataW.TrodAll enc Tryz.prog W 0 (fun _ => true) true Tryz.f4.params.toList args.toList ds p := hA0
  have hsz : (DataW.weightsEach Tryz.prog (Tryz.f4.params.toList ++ Rows.fnExactCountOpenSpec.plain.varTypes Tryz.prog) (ds ++ gs)).all (· ≤ reachBytes) = true := hsz0
  rw [Tryz.params4] at hA hval hsz
  obtain ⟨v0, d0, rfl, rfl, h0⟩ := trodAll_one hA
  obtain ⟨rfl, rfl⟩ := trodVars_none hV
  clear hA0 hval0 hsz0
  simp only [List.append_nil] at hW'
  have hlt : ∀ x ∈ p, x.block < W.heap.size := fun x hx => by simpa using hW'.lt x hx
  have hwt : ∀ k, k ∈ d0.weights Tryz.prog 28 → k ≤ reachBytes := fun k hk => by
    have := List.all_eq_true.1 hsz k (weightsEach_mem hk (i := 0) (by rfl) (by rfl))
    simpa using this
  refine (desk_calls (f := 4) f_LawCount h0 (hval 0 28 v0 rfl rfl) hwt).mono fun e W' ⟨he, hb⟩ => ?_
  subst he
  refine ⟨_, rfl, [d0], [], p, [], p, [], hW', ?_, ?_, rfl, hb.frame _, fun h => by cases h⟩
  · exact trodAll_mk1 (shut_bool Tryz.underlying4 true)
  · exact trodAll_mk1 (Below.trod Tryz.laidOut (by kernel_rfl) (of_decide_eq_true (by kernel_rfl)) h0 hb hlt)

theorem count_holds : Rows.FnExactCountOpenSaid :=
  OpenClaim.holds_of_wide 4 Tryz.f4 rfl rfl rfl rfl rfl rfl rfl ⟨rfl, rfl, rfl, rfl, rfl⟩ rfl rfl rfl rfl rfl (by kernel_rfl) Tryz.func4 (by kernel_rfl)
    (of_decide_eq_true (by kernel_rfl)) (by unfold Func.isWrapper; rw [if_neg (of_decide_eq_false (by kernel_rfl))]; exact ⟨rfl, rfl⟩)
    (fun os started H enc _ => count_lifted os started H enc)
end Go.Proofs.YtelhpkghpoldlaaGreat
#print axioms Go.Proofs.YtelhpkghpoldlaaGreat.live_holds
#print axioms Go.Proofs.YtelhpkghpoldlaaGreat.count_holds
