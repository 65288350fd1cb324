/-
  No cell of these rows narrows 'for every input' (looked for: loops, veiled, ifaces, maps, wideKeys, modest, calm, conditions, laid).
  DERIVED. THE GIVEN ROWS OF THIS SEAT. 10 by the template 'for every input the law returns true; each argument reads behind the call as it read before'; 0 by the template 'total and deterministic' (their statements: YtlmiemdojgahaaaGreatTotals.lean).
  GIVEN WITH THE SEED: the statements are not yours to turn. If you find one false, say at which input.
  Laid BY PROGRAM, IN A SANDBOX (cutbox-rows.mjs): the forced cells as the released guide's own fill.sh prints them over the translation 65538d3a5bd1e0f7… (all of the seat's roots in one cut). By AI agents, Wed Nov 11 2026. No macro, syntax, notation, axiom, sorry.
-/
import Derived.Test.YtlmiemdojgahaaaGreatChecked
import GoSem.Claim
import GoSem.ClaimJoined
import GoSem.ClaimMapViews
import Derived.JoinedTies
import Derived.KernelRfl
namespace Go.Proofs.YtlmiemdojgahaaaGreat
/- THE CELL 'sum', in the pinned program and in every row, IS THE sha256 OF THE DUMP (.gsa) THAT YtlmiemdojgahaaaGreatProg.lean LOADS. Nothing in Lean hashes anything: it is a label: what it is worth is what the hold of that sum in a sandbox is worth. -/
noncomputable def Tryz.pinned : Pinned := { name := "ytlmiemdojgahaaagreat", sum := "65538d3a5bd1e0f78bae4cb425ac633cdb015b91498efdf67916d0ff4c73a633", checked := Tryz.checked }
namespace Rows
def none {H : Type} : Left H := { results := [], args := [] }

/-- 'laws.FnExactPlayChart': WHATEVER THE INPUT: true; the input reads as it did. -/
def fnExactPlayChartSpec : ChangeSpec := { name := "fnExactPlayChart", fn := fun _ => fun
  | [d1, d2, d3, d4] => { results := [.lit (.bool true)], args := [d1, d2, d3, d4] }
  | _ => none }
def fnExactPlayChartRow : OpenClaim := { program := "ytlmiemdojgahaaagreat", sum := "65538d3a5bd1e0f78bae4cb425ac633cdb015b91498efdf67916d0ff4c73a633", func := "loop.example/g00343/laws.FnExactPlayChart", spec := "fnExactPlayChart", unfollowed := true, recurses := true, apart := false }
def FnExactPlayChartSaid : Prop := fnExactPlayChartRow.holds Tryz.pinned (OpenSpec.ofChange fnExactPlayChartSpec)

/-- ITS FALSE NEIGHBOUR: 'it returns false'. Refute it at one input. -/
def fnExactPlayChartWrong : ChangeSpec := { name := "fnExactPlayChart", fn := fun _ => fun
  | [d1, d2, d3, d4] => { results := [.lit (.bool false)], args := [d1, d2, d3, d4] }
  | _ => none }
def FnExactPlayChartWrongFalsely : Prop := fnExactPlayChartRow.holds Tryz.pinned (OpenSpec.ofChange fnExactPlayChartWrong)

/-- 'laws.FnExactFreeTask': WHATEVER THE INPUT: true; the input reads as it did. -/
def fnExactFreeTaskSpec : ChangeSpec := { name := "fnExactFreeTask", fn := fun _ => fun
  | [d1, d2, d3, d4] => { results := [.lit (.bool true)], args := [d1, d2, d3, d4] }
  | _ => none }
def fnExactFreeTaskRow : OpenClaim := { program := "ytlmiemdojgahaaagreat", sum := "65538d3a5bd1e0f78bae4cb425ac633cdb015b91498efdf67916d0ff4c73a633", func := "loop.example/g00343/laws.FnExactFreeTask", spec := "fnExactFreeTask", unfollowed := true, recurses := true, apart := false }
def FnExactFreeTaskSaid : Prop := fnExactFreeTaskRow.holds Tryz.pinned (OpenSpec.ofChange fnExactFreeTaskSpec)

/-- ITS FALSE NEIGHBOUR: 'it returns false'. Refute it at one input. -/
def fnExactFreeTaskWrong : ChangeSpec := { name := "fnExactFreeTask", fn := fun _ => fun
  | [d1, d2, d3, d4] => { results := [.lit (.bool false)], args := [d1, d2, d3, d4] }
  | _ => none }
def FnExactFreeTaskWrongFalsely : Prop := fnExactFreeTaskRow.holds Tryz.pinned (OpenSpec.ofChange fnExactFreeTaskWrong)

/-- 'laws.FnExactStartInst': WHATEVER THE INPUT: true; the input reads as it did. -/
def fnExactStartInstSpec : ChangeSpec := { name := "fnExactStartInst", fn := fun _ => fun
  | [d1, d2, d3] => { results := [.lit (.bool true)], args := [d1, d2, d3] }
  | _ => none }
def fnExactStartInstRow : OpenClaim := { program := "ytlmiemdojgahaaagreat", sum := "65538d3a5bd1e0f78bae4cb425ac633cdb015b91498efdf67916d0ff4c73a633", func := "loop.example/g00343/laws.FnExactStartInst", spec := "fnExactStartInst", unfollowed := true, recurses := true, apart := false }
def FnExactStartInstSaid : Prop := fnExactStartInstRow.holds Tryz.pinned (OpenSpec.ofChange fnExactStartInstSpec)

/-- ITS FALSE NEIGHBOUR: 'it returns false'. Refute it at one input. -/
def fnExactStartInstWrong : ChangeSpec := { name := "fnExactStartInst", fn := fun _ => fun
  | [d1, d2, d3] => { results := [.lit (.bool false)], args := [d1, d2, d3] }
  | _ => none }
def FnExactStartInstWrongFalsely : Prop := fnExactStartInstRow.holds Tryz.pinned (OpenSpec.ofChange fnExactStartInstWrong)

/-- 'laws.FnExactMailInst': WHATEVER THE INPUT: true; the input reads as it did. -/
def fnExactMailInstSpec : ChangeSpec := { name := "fnExactMailInst", fn := fun _ => fun
  | [d1, d2, d3] => { results := [.lit (.bool true)], args := [d1, d2, d3] }
  | _ => none }
def fnExactMailInstRow : OpenClaim := { program := "ytlmiemdojgahaaagreat", sum := "65538d3a5bd1e0f78bae4cb425ac633cdb015b91498efdf67916d0ff4c73a633", func := "loop.example/g00343/laws.FnExactMailInst", spec := "fnExactMailInst", unfollowed := true, recurses := true, apart := false }
def FnExactMailInstSaid : Prop := fnExactMailInstRow.holds Tryz.pinned (OpenSpec.ofChange fnExactMailInstSpec)

/-- ITS FALSE NEIGHBOUR: 'it returns false'. Refute it at one input. -/
def fnExactMailInstWrong : ChangeSpec := { name := "fnExactMailInst", fn := fun _ => fun
  | [d1, d2, d3] => { results := [.lit (.bool false)], args := [d1, d2, d3] }
  | _ => none }
def FnExactMailInstWrongFalsely : Prop := fnExactMailInstRow.holds Tryz.pinned (OpenSpec.ofChange fnExactMailInstWrong)

/-- 'laws.FnExactDoneInst': WHATEVER THE INPUT: true; the input reads as it did. -/
def fnExactDoneInstSpec : ChangeSpec := { name := "fnExactDoneInst", fn := fun _ => fun
  | [d1, d2, d3, d4] => { results := [.lit (.bool true)], args := [d1, d2, d3, d4] }
  | _ => none }
def fnExactDoneInstRow : OpenClaim := { program := "ytlmiemdojgahaaagreat", sum := "65538d3a5bd1e0f78bae4cb425ac633cdb015b91498efdf67916d0ff4c73a633", func := "loop.example/g00343/laws.FnExactDoneInst", spec := "fnExactDoneInst", unfollowed := true, recurses := true, apart := false }
def FnExactDoneInstSaid : Prop := fnExactDoneInstRow.holds Tryz.pinned (OpenSpec.ofChange fnExactDoneInstSpec)

/-- ITS FALSE NEIGHBOUR: 'it returns false'. Refute it at one input. -/
def fnExactDoneInstWrong : ChangeSpec := { name := "fnExactDoneInst", fn := fun _ => fun
  | [d1, d2, d3, d4] => { results := [.lit (.bool false)], args := [d1, d2, d3, d4] }
  | _ => none }
def FnExactDoneInstWrongFalsely : Prop := fnExactDoneInstRow.holds Tryz.pinned (OpenSpec.ofChange fnExactDoneInstWrong)

/-- 'laws.FnExactTickEngine': WHATEVER THE INPUT: true; the input reads as it did. -/
def fnExactTickEngineSpec : ChangeSpec := { name := "fnExactTickEngine", fn := fun _ => fun
  | [d1, d2] => { results := [.lit (.bool true)], args := [d1, d2] }
  | _ => none }
def fnExactTickEngineRow : OpenClaim := { program := "ytlmiemdojgahaaagreat", sum := "65538d3a5bd1e0f78bae4cb425ac633cdb015b91498efdf67916d0ff4c73a633", func := "loop.example/g00343/laws.FnExactTickEngine", spec := "fnExactTickEngine", unfollowed := true, recurses := true, apart := false }
def FnExactTickEngineSaid : Prop := fnExactTickEngineRow.holds Tryz.pinned (OpenSpec.ofChange fnExactTickEngineSpec)

/-- ITS FALSE NEIGHBOUR: 'it returns false'. Refute it at one input. -/
def fnExactTickEngineWrong : ChangeSpec := { name := "fnExactTickEngine", fn := fun _ => fun
  | [d1, d2] => { results := [.lit (.bool false)], args := [d1, d2] }
  | _ => none }
def FnExactTickEngineWrongFalsely : Prop := fnExactTickEngineRow.holds Tryz.pinned (OpenSpec.ofChange fnExactTickEngineWrong)

/-- 'laws.FnExactClaimTask': WHATEVER THE INPUT: true; the input reads as it did. -/
def fnExactClaimTaskSpec : ChangeSpec := { name := "fnExactClaimTask", fn := fun _ => fun
  | [d1, d2, d3, d4] => { results := [.lit (.bool true)], args := [d1, d2, d3, d4] }
  | _ => none }
def fnExactClaimTaskRow : OpenClaim := { program := "ytlmiemdojgahaaagreat", sum := "65538d3a5bd1e0f78bae4cb425ac633cdb015b91498efdf67916d0ff4c73a633", func := "loop.example/g00343/laws.FnExactClaimTask", spec := "fnExactClaimTask", inPlace := ["slices.overlaps[loop.example/g00343/impl.Claim]"], unfollowed := true, recurses := true, apart := false }
def FnExactClaimTaskSaid : Prop := fnExactClaimTaskRow.holds Tryz.pinned (OpenSpec.ofChange fnExactClaimTaskSpec)

/-- ITS FALSE NEIGHBOUR: 'it returns false'. Refute it at one input. -/
def fnExactClaimTaskWrong : ChangeSpec := { name := "fnExactClaimTask", fn := fun _ => fun
  | [d1, d2, d3, d4] => { results := [.lit (.bool false)], args := [d1, d2, d3, d4] }
  | _ => none }
def FnExactClaimTaskWrongFalsely : Prop := fnExactClaimTaskRow.holds Tryz.pinned (OpenSpec.ofChange fnExactClaimTaskWrong)

/-- 'laws.FnExactSyncWorld': WHATEVER THE INPUT: true; the input reads as it did. -/
def fnExactSyncWorldSpec : ChangeSpec := { name := "fnExactSyncWorld", fn := fun _ => fun
  | [d] => { results := [.lit (.bool true)], args := [d] }
  | _ => none }
def fnExactSyncWorldRow : OpenClaim := { program := "ytlmiemdojgahaaagreat", sum := "65538d3a5bd1e0f78bae4cb425ac633cdb015b91498efdf67916d0ff4c73a633", func := "loop.example/g00343/laws.FnExactSyncWorld", spec := "fnExactSyncWorld", unfollowed := true, recurses := true, apart := false }
def FnExactSyncWorldSaid : Prop := fnExactSyncWorldRow.holds Tryz.pinned (OpenSpec.ofChange fnExactSyncWorldSpec)

/-- ITS FALSE NEIGHBOUR: 'it returns false'. Refute it at one input. -/
def fnExactSyncWorldWrong : ChangeSpec := { name := "fnExactSyncWorld", fn := fun _ => fun
  | [d] => { results := [.lit (.bool false)], args := [d] }
  | _ => none }
def FnExactSyncWorldWrongFalsely : Prop := fnExactSyncWorldRow.holds Tryz.pinned (OpenSpec.ofChange fnExactSyncWorldWrong)

/-- 'laws.FnExactFinishTask': WHATEVER THE INPUT: true; the input reads as it did. -/
def fnExactFinishTaskSpec : ChangeSpec := { name := "fnExactFinishTask", fn := fun _ => fun
  | [d1, d2, d3, d4, d5] => { results := [.lit (.bool true)], args := [d1, d2, d3, d4, d5] }
  | _ => none }
def fnExactFinishTaskRow : OpenClaim := { program := "ytlmiemdojgahaaagreat", sum := "65538d3a5bd1e0f78bae4cb425ac633cdb015b91498efdf67916d0ff4c73a633", func := "loop.example/g00343/laws.FnExactFinishTask", spec := "fnExactFinishTask", unfollowed := true, recurses := true, apart := false }
def FnExactFinishTaskSaid : Prop := fnExactFinishTaskRow.holds Tryz.pinned (OpenSpec.ofChange fnExactFinishTaskSpec)

/-- ITS FALSE NEIGHBOUR: 'it returns false'. Refute it at one input. -/
def fnExactFinishTaskWrong : ChangeSpec := { name := "fnExactFinishTask", fn := fun _ => fun
  | [d1, d2, d3, d4, d5] => { results := [.lit (.bool false)], args := [d1, d2, d3, d4, d5] }
  | _ => none }
def FnExactFinishTaskWrongFalsely : Prop := fnExactFinishTaskRow.holds Tryz.pinned (OpenSpec.ofChange fnExactFinishTaskWrong)

/-- 'laws.FnExactStirDesk': WHATEVER THE INPUT: true; the input reads as it did. -/
def fnExactStirDeskSpec : ChangeSpec := { name := "fnExactStirDesk", fn := fun _ => fun
  | [d1, d2, d3, d4] => { results := [.lit (.bool true)], args := [d1, d2, d3, d4] }
  | _ => none }
def fnExactStirDeskRow : OpenClaim := { program := "ytlmiemdojgahaaagreat", sum := "65538d3a5bd1e0f78bae4cb425ac633cdb015b91498efdf67916d0ff4c73a633", func := "loop.example/g00343/laws.FnExactStirDesk", spec := "fnExactStirDesk", unfollowed := true, recurses := true, apart := false }
def FnExactStirDeskSaid : Prop := fnExactStirDeskRow.holds Tryz.pinned (OpenSpec.ofChange fnExactStirDeskSpec)

/-- ITS FALSE NEIGHBOUR: 'it returns false'. Refute it at one input. -/
def fnExactStirDeskWrong : ChangeSpec := { name := "fnExactStirDesk", fn := fun _ => fun
  | [d1, d2, d3, d4] => { results := [.lit (.bool false)], args := [d1, d2, d3, d4] }
  | _ => none }
def FnExactStirDeskWrongFalsely : Prop := fnExactStirDeskRow.holds Tryz.pinned (OpenSpec.ofChange fnExactStirDeskWrong)

/- THE SECOND FORM. 'bulk': how many values and letters a reading holds, each counted each time it is reached (what is shared counts as often as it is met; a slice's spare places count too). A statement '..UptoSaid' is the law's where the arguments, and the package variables that the reading takes, are together of bulk at most 1048576: NARROWER than '..Said'. Prove '..Said' where nothing that the law and all that it calls make is longer than what came in: it says more and counts as full. Else prove '..UptoSaid'. A law counts once. -/
mutual
def uptoBulk {H : Type} : DataW H → Nat
  | .lit (.string bytes) => bytes.length + 1
  | .lit _ => 1
  | .nil => 1
  | .ptr d => uptoBulk d + 1
  | .slice elems spare => uptoBulkAll elems + uptoBulkAll spare + 1
  | .agg parts => uptoBulkAll parts + 1
  | .iface _ d => uptoBulk d + 1
  | .map entries => uptoBulkEntries entries + 1
  | .held _ => 1
def uptoBulkAll {H : Type} : List (DataW H) → Nat
  | [] => 0
  | d :: r => uptoBulk d + uptoBulkAll r
def uptoBulkEntries {H : Type} : List (Lit × DataW H) → Nat
  | [] => 0
  | x :: r => uptoBulkEntry x + uptoBulkEntries r
def uptoBulkEntry {H : Type} : Lit × DataW H → Nat
  | (.string bytes, d) => bytes.length + uptoBulk d + 1
  | (_, d) => uptoBulk d + 1
 end
def uptoSmall : (H : Type) → List (DataW H) → Bool := fun _ ds => decide (uptoBulkAll ds ≤ 1048576)
def OpenSpec.upto (s : _root_.Go.ChangeSpec) : _root_.Go.OpenSpec := { _root_.Go.OpenSpec.ofChange s with cond := some uptoSmall }

/-- 'laws.FnExactPlayChart', WHERE WHAT IT READS IS OF BULK AT MOST 1048576: true; the input reads as it did. -/
def fnExactPlayChartUptoRow : OpenClaim := { program := "ytlmiemdojgahaaagreat", sum := "65538d3a5bd1e0f78bae4cb425ac633cdb015b91498efdf67916d0ff4c73a633", func := "loop.example/g00343/laws.FnExactPlayChart", spec := "fnExactPlayChart", unfollowed := true, recurses := true, apart := false, narrowed := true }
def FnExactPlayChartUptoSaid : Prop := fnExactPlayChartUptoRow.holds Tryz.pinned (OpenSpec.upto fnExactPlayChartSpec)

/-- 'laws.FnExactFreeTask', WHERE WHAT IT READS IS OF BULK AT MOST 1048576: true; the input reads as it did. -/
def fnExactFreeTaskUptoRow : OpenClaim := { program := "ytlmiemdojgahaaagreat", sum := "65538d3a5bd1e0f78bae4cb425ac633cdb015b91498efdf67916d0ff4c73a633", func := "loop.example/g00343/laws.FnExactFreeTask", spec := "fnExactFreeTask", unfollowed := true, recurses := true, apart := false, narrowed := true }
def FnExactFreeTaskUptoSaid : Prop := fnExactFreeTaskUptoRow.holds Tryz.pinned (OpenSpec.upto fnExactFreeTaskSpec)

/-- 'laws.FnExactStartInst', WHERE WHAT IT READS IS OF BULK AT MOST 1048576: true; the input reads as it did. -/
def fnExactStartInstUptoRow : OpenClaim := { program := "ytlmiemdojgahaaagreat", sum := "65538d3a5bd1e0f78bae4cb425ac633cdb015b91498efdf67916d0ff4c73a633", func := "loop.example/g00343/laws.FnExactStartInst", spec := "fnExactStartInst", unfollowed := true, recurses := true, apart := false, narrowed := true }
def FnExactStartInstUptoSaid : Prop := fnExactStartInstUptoRow.holds Tryz.pinned (OpenSpec.upto fnExactStartInstSpec)

/-- 'laws.FnExactMailInst', WHERE WHAT IT READS IS OF BULK AT MOST 1048576: true; the input reads as it did. -/
def fnExactMailInstUptoRow : OpenClaim := { program := "ytlmiemdojgahaaagreat", sum := "65538d3a5bd1e0f78bae4cb425ac633cdb015b91498efdf67916d0ff4c73a633", func := "loop.example/g00343/laws.FnExactMailInst", spec := "fnExactMailInst", unfollowed := true, recurses := true, apart := false, narrowed := true }
def FnExactMailInstUptoSaid : Prop := fnExactMailInstUptoRow.holds Tryz.pinned (OpenSpec.upto fnExactMailInstSpec)

/-- 'laws.FnExactDoneInst', WHERE WHAT IT READS IS OF BULK AT MOST 1048576: true; the input reads as it did. -/
def fnExactDoneInstUptoRow : OpenClaim := { program := "ytlmiemdojgahaaagreat", sum := "65538d3a5bd1e0f78bae4cb425ac633cdb015b91498efdf67916d0ff4c73a633", func := "loop.example/g00343/laws.FnExactDoneInst", spec := "fnExactDoneInst", unfollowed := true, recurses := true, apart := false, narrowed := true }
def FnExactDoneInstUptoSaid : Prop := fnExactDoneInstUptoRow.holds Tryz.pinned (OpenSpec.upto fnExactDoneInstSpec)

/-- 'laws.FnExactTickEngine', WHERE WHAT IT READS IS OF BULK AT MOST 1048576: true; the input reads as it did. -/
def fnExactTickEngineUptoRow : OpenClaim := { program := "ytlmiemdojgahaaagreat", sum := "65538d3a5bd1e0f78bae4cb425ac633cdb015b91498efdf67916d0ff4c73a633", func := "loop.example/g00343/laws.FnExactTickEngine", spec := "fnExactTickEngine", unfollowed := true, recurses := true, apart := false, narrowed := true }
def FnExactTickEngineUptoSaid : Prop := fnExactTickEngineUptoRow.holds Tryz.pinned (OpenSpec.upto fnExactTickEngineSpec)

/-- 'laws.FnExactClaimTask', WHERE WHAT IT READS IS OF BULK AT MOST 1048576: true; the input reads as it did. -/
def fnExactClaimTaskUptoRow : OpenClaim := { program := "ytlmiemdojgahaaagreat", sum := "65538d3a5bd1e0f78bae4cb425ac633cdb015b91498efdf67916d0ff4c73a633", func := "loop.example/g00343/laws.FnExactClaimTask", spec := "fnExactClaimTask", inPlace := ["slices.overlaps[loop.example/g00343/impl.Claim]"], unfollowed := true, recurses := true, apart := false, narrowed := true }
def FnExactClaimTaskUptoSaid : Prop := fnExactClaimTaskUptoRow.holds Tryz.pinned (OpenSpec.upto fnExactClaimTaskSpec)

/-- 'laws.FnExactSyncWorld', WHERE WHAT IT READS IS OF BULK AT MOST 1048576: true; the input reads as it did. -/
def fnExactSyncWorldUptoRow : OpenClaim := { program := "ytlmiemdojgahaaagreat", sum := "65538d3a5bd1e0f78bae4cb425ac633cdb015b91498efdf67916d0ff4c73a633", func := "loop.example/g00343/laws.FnExactSyncWorld", spec := "fnExactSyncWorld", unfollowed := true, recurses := true, apart := false, narrowed := true }
def FnExactSyncWorldUptoSaid : Prop := fnExactSyncWorldUptoRow.holds Tryz.pinned (OpenSpec.upto fnExactSyncWorldSpec)

/-- 'laws.FnExactFinishTask', WHERE WHAT IT READS IS OF BULK AT MOST 1048576: true; the input reads as it did. -/
def fnExactFinishTaskUptoRow : OpenClaim := { program := "ytlmiemdojgahaaagreat", sum := "65538d3a5bd1e0f78bae4cb425ac633cdb015b91498efdf67916d0ff4c73a633", func := "loop.example/g00343/laws.FnExactFinishTask", spec := "fnExactFinishTask", unfollowed := true, recurses := true, apart := false, narrowed := true }
def FnExactFinishTaskUptoSaid : Prop := fnExactFinishTaskUptoRow.holds Tryz.pinned (OpenSpec.upto fnExactFinishTaskSpec)

/-- 'laws.FnExactStirDesk', WHERE WHAT IT READS IS OF BULK AT MOST 1048576: true; the input reads as it did. -/
def fnExactStirDeskUptoRow : OpenClaim := { program := "ytlmiemdojgahaaagreat", sum := "65538d3a5bd1e0f78bae4cb425ac633cdb015b91498efdf67916d0ff4c73a633", func := "loop.example/g00343/laws.FnExactStirDesk", spec := "fnExactStirDesk", unfollowed := true, recurses := true, apart := false, narrowed := true }
def FnExactStirDeskUptoSaid : Prop := fnExactStirDeskUptoRow.holds Tryz.pinned (OpenSpec.upto fnExactStirDeskSpec)

end Rows
end Go.Proofs.YtlmiemdojgahaaaGreat
