/- The law FnExactBoundOf returns true at every argument, and its argument reads behind the call as it read before. No condition beyond the row itself. -/
import Derived.Test.YtflffigkdohehaaBo3
import Derived.Test.YtflffigkdohehaaRows
import Derived.ProofKit
import Derived.SizedLaws

namespace Go.Proofs.Ytflffigkdohehaa
open Go.ChangeShapes Go.WideShapes Go.ChangeAt Go.RowKit Go.TM Go.TM.Bo

theorem Try.own : ownKnob Try.prog.godebug = none := by kernel_rfl
theorem Try.laidOut : laidOutB Try.prog = true := by kernel_rfl

set_option maxRecDepth 100000 in
theorem bound_lifted (os : Os) (started : os.Started) (H : Type) (enc : TypeId × Value → H) :
    ReturnsInHanded {} Try.checked os 3 .any (Rows.fnExactBoundOfSpec.pre6 enc Try.prog Try.f3 Rows.fnExactBoundOfRow.domain false) (Rows.fnExactBoundOfSpec.post enc Try.prog Try.f3 false true false false) := by
  refine returnsInHanded_of_change_sized (C := Try.checked) Try.own started (by kernel_rfl) Try.func3
    (ChangeSpec.witness6 (enc := enc) (C := Try.checked) false ⟨#[], #[.slice none 0 0], []⟩ 8 (by kernel_rfl) (by kernel_rfl) (by kernel_rfl) (by kernel_rfl)) ?_
  intro W base args ds gs before hval0 hW hcnd hsz0 _
  have hval : ∀ (j : Nat) t v, Try.f3.params[j]? = some t → args[j]? = some v → Value.okWide Try.prog W .any base t v := hval0
  have hW' := hW
  obtain ⟨p, q, hA0, hV, rfl, hfz, hnd⟩ := hW
  have hA : DataW.TrodAll enc Try.prog W 0 (fun _ => true) true Try.f3.params.toList args.toList ds p := hA0
  have hsz : (DataW.weightsEach Try.prog (Try.f3.params.toList ++ Rows.fnExactBoundOfSpec.plain.varTypes Try.prog) (ds ++ gs)).all (· ≤ reachBytes) = true := hsz0
  rw [Try.params3] at hA hval hsz
  obtain ⟨v0, d0, rfl, rfl, h0⟩ := trodAll_one hA
  obtain ⟨rfl, rfl⟩ := trodVars_none hV
  clear hA0 hval0 hsz0
  obtain ⟨a, len, cap, rfl⟩ := okWide_slice u22 (hval 0 22 v0 rfl rfl)
  simp only [List.append_nil] at hW'
  have hlt : ∀ x ∈ p, x.block < W.heap.size := fun x hx => by simpa using hW'.lt x hx
  have hwt : ∀ k, k ∈ d0.weights Try.prog 22 → k ≤ reachBytes := fun k hk => by
    have := List.all_eq_true.1 hsz k (weightsEach_mem hk (i := 0) (by rfl) (by rfl))
    simpa using this
  obtain ⟨ts, ht, hok⟩ := read_arg (sz := szOf Bo.E) (I := fun b => b < W.heap.size) (fun b hb => hb) arg_plain h0 rfl hwt
  obtain ⟨l, rfl, hl, hf⟩ := tree_arg ht
  simp only [okL] at hok
  obtain ⟨u, us', f1, f2, e1, e2, hok, _, _⟩ := hok
  obtain ⟨rfl, rfl⟩ := List.cons.inj e1
  obtain ⟨rfl, rfl⟩ := List.append_eq_nil_iff.1 e2.symm
  have hs := (orc_sound able (f_Law l hl hf)).1 ⟨W, [], fun b => b < W.heap.size, fun b hb => ⟨hb, by simp⟩⟩ [.slice a len cap] (by simp [Uniq]) (by simp)
    ⟨_, [], [], [], rfl, rfl, ⟨hok, rfl⟩, ⟨rfl, rfl⟩⟩
  refine Calls.mono hs fun e W' h => ?_
  match e, h with
  | .returned u, h =>
    obtain ⟨f, fo, hu, _⟩ := h.ok
    simp only [okV] at hu
    obtain ⟨rfl, _⟩ := hu
    have hb : Below W.heap.size W W' := ⟨h.fr.os, h.fr.tape, h.fr.output, h.fr.size, fun k hk => h.fr.block k hk (by simp)⟩
    refine ⟨_, rfl, [d0], [], p, [], p, [], hW', ?_, ?_, rfl, hb.frame _, fun h => by cases h⟩
    · exact trodAll_mk1 (shut_bool Try.underlying4 true)
    · exact trodAll_mk1 (Below.trod Try.laidOut (by kernel_rfl) (of_decide_eq_true (by kernel_rfl)) h0 hb hlt)

theorem bound_holds : Rows.FnExactBoundOfSaid :=
  OpenClaim.holds_of_wide 3 Try.f3 rfl rfl rfl rfl rfl rfl rfl ⟨rfl, rfl, rfl, rfl, rfl⟩ rfl rfl rfl rfl rfl (by kernel_rfl) Try.func3 (by kernel_rfl)
    (of_decide_eq_true (by kernel_rfl)) (by unfold Func.isWrapper; rw [if_neg (of_decide_eq_false (by kernel_rfl))]; exact ⟨rfl, rfl⟩)
    (fun os started H enc _ => bound_lifted os started H enc)
end Go.Proofs.Ytflffigkdohehaa
#print axioms Go.Proofs.Ytflffigkdohehaa.bound_holds
