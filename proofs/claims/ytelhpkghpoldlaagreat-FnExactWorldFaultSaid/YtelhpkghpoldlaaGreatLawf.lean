/- The law FnExactWorldFault returns true at every argument, and its argument reads behind the call as it read before. No condition beyond the row itself. -/
import Derived.Test.YtelhpkghpoldlaaGreatW1
import Derived.Test.YtelhpkghpoldlaaGreatRows
import Derived.ProofKit
import Derived.SizedLaws

namespace Go.Proofs.YtelhpkghpoldlaaGreat
open Go.ChangeShapes Go.WideShapes Go.ChangeAt Go.RowKit Go.TM Go.TM.Lr

theorem Tryz.own : ownKnob Tryz.prog.godebug = none := by kernel_rfl
theorem Tryz.laidOut : laidOutB Tryz.prog = true := by kernel_rfl
set_option maxRecDepth 100000 in
/-- What the machine says of a call with one world holds of every world that is read. -/
theorem world_calls {H : Type} {enc : TypeId × Value → H} {W : Go.World} {v0 : Value} {d0 : DataW H} {p : List MemPlace} {base : Nat}
    (h0 : DataW.Trod enc Tryz.prog W 0 (fun _ => true) true 49 v0 d0 p) (hv : Value.okWide Tryz.prog W .any base 49 v0) (hwt : ∀ k, k ∈ d0.weights Tryz.prog 49 → k ≤ reachBytes) :
    Calls Tryz.prog 5 #[v0] W fun e W' => e = .returned (.bool true) ∧ Below W.heap.size W W' := by
  simp only [Value.okWide, Tryz.underlying49] at hv
  obtain ⟨cs, rfl, _⟩ := hv
  obtain ⟨fuel, hf0⟩ := h0
  obtain ⟨ts, ht, hok⟩ := read_ok (sz := szOf Lr.E) (I := fun b => b < W.heap.size) (fun b hb => hb) 10 fuel 49 _ _ world_plain hf0 hwt
  obtain ⟨d, rfl, hd⟩ := tree_world ht
  have hs := (orc_sound able (f_LawWorld d hd)).1 ⟨W, [], fun b => b < W.heap.size, fun b hb => ⟨hb, by simp⟩⟩ [.agg cs] (by simp [Uniq]) (by simp)
    ⟨_, [], [], [], rfl, rfl, ⟨⟨cs.toList, by simp, hok⟩, rfl⟩, ⟨rfl, rfl⟩⟩
  refine Calls.mono hs fun e W' h => ?_
  match e, h with
  | .returned u, h =>
    obtain ⟨f, fo, hu, _⟩ := h.ok
    simp only [okV] at hu
    obtain ⟨rfl, _⟩ := hu
    exact ⟨rfl, ⟨h.fr.os, h.fr.tape, h.fr.output, h.fr.size, fun k hk => h.fr.block k hk (by simp)⟩⟩

set_option maxRecDepth 100000 in
theorem world_lifted (os : Os) (started : os.Started) (H : Type) (enc : TypeId × Value → H) :
    ReturnsInHanded {} Tryz.checked os 5 .any (Rows.fnExactWorldFaultSpec.pre6 enc Tryz.prog Tryz.f5 Rows.fnExactWorldFaultRow.domain false) (Rows.fnExactWorldFaultSpec.post enc Tryz.prog Tryz.f5 false true false false) := by
  refine returnsInHanded_of_change_sized (C := Tryz.checked) Tryz.own started (by kernel_rfl) Tryz.func5
    (ChangeSpec.witness6 (enc := enc) (C := Tryz.checked) false ⟨#[], #[.agg #[.slice none 0 0, .slice none 0 0, .int .i64 0, .slice none 0 0, .slice none 0 0, .slice none 0 0]], []⟩ 8 (by kernel_rfl) (by kernel_rfl) (by kernel_rfl) (by kernel_rfl)) ?_
  intro W base args ds gs before hval0 hW hcnd hsz0 _
  have hval : ∀ (j : Nat) t v, Tryz.f5.params[j]? = some t → args[j]? = some v → Value.okWide Tryz.prog W .any base t v := hval0
  have hW' := hW
  obtain ⟨p, q, hA0, hV, rfl, hfz, hnd⟩ := hW
  have hA : DataW.TrodAll enc Tryz.prog W 0 (fun _ => true) true Tryz.f5.params.toList args.toList ds p := hA0
  have hsz : (DataW.weightsEach Tryz.prog (Tryz.f5.params.toList ++ Rows.fnExactWorldFaultSpec.plain.varTypes Tryz.prog) (ds ++ gs)).all (· ≤ reachBytes) = true := hsz0
  rw [Tryz.params5] at hA hval hsz
  obtain ⟨v0, d0, rfl, rfl, h0⟩ := trodAll_one hA
  obtain ⟨rfl, rfl⟩ := trodVars_none hV
  clear hA0 hval0 hsz0
  simp only [List.append_nil] at hW'
  have hlt : ∀ x ∈ p, x.block < W.heap.size := fun x hx => by simpa using hW'.lt x hx
  have hwt : ∀ k, k ∈ d0.weights Tryz.prog 49 → k ≤ reachBytes := fun k hk => by
    have := List.all_eq_true.1 hsz k (weightsEach_mem hk (i := 0) (by rfl) (by rfl))
    simpa using this
  refine (world_calls h0 (hval 0 49 v0 rfl rfl) hwt).mono fun e W' ⟨he, hb⟩ => ?_
  subst he
  refine ⟨_, rfl, [d0], [], p, [], p, [], hW', ?_, ?_, rfl, hb.frame _, fun h => by cases h⟩
  · exact trodAll_mk1 (shut_bool Tryz.underlying4 true)
  · exact trodAll_mk1 (Below.trod Tryz.laidOut (by kernel_rfl) (of_decide_eq_true (by kernel_rfl)) h0 hb hlt)

theorem world_holds : Rows.FnExactWorldFaultSaid :=
  OpenClaim.holds_of_wide 5 Tryz.f5 rfl rfl rfl rfl rfl rfl rfl ⟨rfl, rfl, rfl, rfl, rfl⟩ rfl rfl rfl rfl rfl (by kernel_rfl) Tryz.func5 (by kernel_rfl)
    (of_decide_eq_true (by kernel_rfl)) (by unfold Func.isWrapper; rw [if_neg (of_decide_eq_false (by kernel_rfl))]; exact ⟨rfl, rfl⟩)
    (fun os started H enc _ => world_lifted os started H enc)
end Go.Proofs.YtelhpkghpoldlaaGreat
#print axioms Go.Proofs.YtelhpkghpoldlaaGreat.world_holds
