/-
  No cell of these rows narrows 'for every input' (looked for: loops, veiled, ifaces, maps, wideKeys, modest, calm, conditions, laid).
  DERIVED. THE GIVEN ROWS OF THIS SEAT. 3 by the template 'for every input the law returns true; each argument reads behind the call as it read before'; 0 by the template 'total and deterministic' (their statements: YtelhpkghpoldlaaGreatTotals.lean).
  GIVEN WITH THE SEED: the statements are not yours to turn. If you find one false, say at which input.
  Laid BY PROGRAM, IN A SANDBOX (cutbox-rows.mjs): the forced cells as the released guide's own fill.sh prints them over the translation 5398b598e642d37b… (all of the seat's roots in one cut). By AI agents, Wed Nov 11 2026. No macro, syntax, notation, axiom, sorry.
-/
import Derived.Test.YtelhpkghpoldlaaGreatChecked
import GoSem.Claim
import GoSem.ClaimJoined
import GoSem.ClaimMapViews
import Derived.JoinedTies
import Derived.KernelRfl
namespace Go.Proofs.YtelhpkghpoldlaaGreat
/- THE CELL 'sum', in the pinned program and in every row, IS THE sha256 OF THE DUMP (.gsa) THAT YtelhpkghpoldlaaGreatProg.lean LOADS. Nothing in Lean hashes anything: it is a label: what it is worth is what the hold of that sum in a sandbox is worth. -/
noncomputable def Tryz.pinned : Pinned := { name := "ytelhpkghpoldlaagreat", sum := "5398b598e642d37b51aee60a095920b09775d3e3c5965c4fae1307d5ed6fa418", checked := Tryz.checked }
namespace Rows
def none {H : Type} : Left H := { results := [], args := [] }

/-- 'laws.FnExactLiveRight': WHATEVER THE INPUT: true; the input reads as it did. -/
def fnExactLiveRightSpec : ChangeSpec := { name := "fnExactLiveRight", fn := fun _ => fun
  | [d] => { results := [.lit (.bool true)], args := [d] }
  | _ => none }
def fnExactLiveRightRow : OpenClaim := { program := "ytelhpkghpoldlaagreat", sum := "5398b598e642d37b51aee60a095920b09775d3e3c5965c4fae1307d5ed6fa418", func := "loop.example/g00343/laws.FnExactLiveRight", spec := "fnExactLiveRight", unfollowed := true, recurses := true, apart := false }
def FnExactLiveRightSaid : Prop := fnExactLiveRightRow.holds Tryz.pinned (OpenSpec.ofChange fnExactLiveRightSpec)

/-- ITS FALSE NEIGHBOUR: 'it returns false'. Refute it at one input. -/
def fnExactLiveRightWrong : ChangeSpec := { name := "fnExactLiveRight", fn := fun _ => fun
  | [d] => { results := [.lit (.bool false)], args := [d] }
  | _ => none }
def FnExactLiveRightWrongFalsely : Prop := fnExactLiveRightRow.holds Tryz.pinned (OpenSpec.ofChange fnExactLiveRightWrong)

/-- 'laws.FnExactCountOpen': WHATEVER THE INPUT: true; the input reads as it did. -/
def fnExactCountOpenSpec : ChangeSpec := { name := "fnExactCountOpen", fn := fun _ => fun
  | [d] => { results := [.lit (.bool true)], args := [d] }
  | _ => none }
def fnExactCountOpenRow : OpenClaim := { program := "ytelhpkghpoldlaagreat", sum := "5398b598e642d37b51aee60a095920b09775d3e3c5965c4fae1307d5ed6fa418", func := "loop.example/g00343/laws.FnExactCountOpen", spec := "fnExactCountOpen", unfollowed := true, recurses := true, apart := false }
def FnExactCountOpenSaid : Prop := fnExactCountOpenRow.holds Tryz.pinned (OpenSpec.ofChange fnExactCountOpenSpec)

/-- ITS FALSE NEIGHBOUR: 'it returns false'. Refute it at one input. -/
def fnExactCountOpenWrong : ChangeSpec := { name := "fnExactCountOpen", fn := fun _ => fun
  | [d] => { results := [.lit (.bool false)], args := [d] }
  | _ => none }
def FnExactCountOpenWrongFalsely : Prop := fnExactCountOpenRow.holds Tryz.pinned (OpenSpec.ofChange fnExactCountOpenWrong)

/-- 'laws.FnExactWorldFault': WHATEVER THE INPUT: true; the input reads as it did. -/
def fnExactWorldFaultSpec : ChangeSpec := { name := "fnExactWorldFault", fn := fun _ => fun
  | [d] => { results := [.lit (.bool true)], args := [d] }
  | _ => none }
def fnExactWorldFaultRow : OpenClaim := { program := "ytelhpkghpoldlaagreat", sum := "5398b598e642d37b51aee60a095920b09775d3e3c5965c4fae1307d5ed6fa418", func := "loop.example/g00343/laws.FnExactWorldFault", spec := "fnExactWorldFault", unfollowed := true, recurses := true, apart := false }
def FnExactWorldFaultSaid : Prop := fnExactWorldFaultRow.holds Tryz.pinned (OpenSpec.ofChange fnExactWorldFaultSpec)

/-- ITS FALSE NEIGHBOUR: 'it returns false'. Refute it at one input. -/
def fnExactWorldFaultWrong : ChangeSpec := { name := "fnExactWorldFault", fn := fun _ => fun
  | [d] => { results := [.lit (.bool false)], args := [d] }
  | _ => none }
def FnExactWorldFaultWrongFalsely : Prop := fnExactWorldFaultRow.holds Tryz.pinned (OpenSpec.ofChange fnExactWorldFaultWrong)

/- THE SECOND FORM. 'bulk': how many values and letters a reading holds, each counted each time it is reached (what is shared counts as often as it is met; a slice's spare places count too). A statement '..UptoSaid' is the law's where the arguments, and the package variables that the reading takes, are together of bulk at most 1048576: NARROWER than '..Said'. Prove '..Said' where nothing that the law and all that it calls make is longer than what came in: it says more and counts as full. Else prove '..UptoSaid'. A law counts once. -/
mutual
def uptoBulk {H : Type} : DataW H → Nat
  | .lit (.string bytes) => bytes.length + 1
  | .lit _ => 1
  | .nil => 1
  | .ptr d => uptoBulk d + 1
  | .slice elems spare => uptoBulkAll elems + uptoBulkAll spare + 1
  | .agg parts => uptoBulkAll parts + 1
  | .iface _ d => uptoBulk d + 1
  | .map entries => uptoBulkEntries entries + 1
  | .held _ => 1
def uptoBulkAll {H : Type} : List (DataW H) → Nat
  | [] => 0
  | d :: r => uptoBulk d + uptoBulkAll r
def uptoBulkEntries {H : Type} : List (Lit × DataW H) → Nat
  | [] => 0
  | x :: r => uptoBulkEntry x + uptoBulkEntries r
def uptoBulkEntry {H : Type} : Lit × DataW H → Nat
  | (.string bytes, d) => bytes.length + uptoBulk d + 1
  | (_, d) => uptoBulk d + 1
 end
def uptoSmall : (H : Type) → List (DataW H) → Bool := fun _ ds => decide (uptoBulkAll ds ≤ 1048576)
def OpenSpec.upto (s : _root_.Go.ChangeSpec) : _root_.Go.OpenSpec := { _root_.Go.OpenSpec.ofChange s with cond := some uptoSmall }

/-- 'laws.FnExactLiveRight', WHERE WHAT IT READS IS OF BULK AT MOST 1048576: true; the input reads as it did. -/
def fnExactLiveRightUptoRow : OpenClaim := { program := "ytelhpkghpoldlaagreat", sum := "5398b598e642d37b51aee60a095920b09775d3e3c5965c4fae1307d5ed6fa418", func := "loop.example/g00343/laws.FnExactLiveRight", spec := "fnExactLiveRight", unfollowed := true, recurses := true, apart := false, narrowed := true }
def FnExactLiveRightUptoSaid : Prop := fnExactLiveRightUptoRow.holds Tryz.pinned (OpenSpec.upto fnExactLiveRightSpec)

/-- 'laws.FnExactCountOpen', WHERE WHAT IT READS IS OF BULK AT MOST 1048576: true; the input reads as it did. -/
def fnExactCountOpenUptoRow : OpenClaim := { program := "ytelhpkghpoldlaagreat", sum := "5398b598e642d37b51aee60a095920b09775d3e3c5965c4fae1307d5ed6fa418", func := "loop.example/g00343/laws.FnExactCountOpen", spec := "fnExactCountOpen", unfollowed := true, recurses := true, apart := false, narrowed := true }
def FnExactCountOpenUptoSaid : Prop := fnExactCountOpenUptoRow.holds Tryz.pinned (OpenSpec.upto fnExactCountOpenSpec)

/-- 'laws.FnExactWorldFault', WHERE WHAT IT READS IS OF BULK AT MOST 1048576: true; the input reads as it did. -/
def fnExactWorldFaultUptoRow : OpenClaim := { program := "ytelhpkghpoldlaagreat", sum := "5398b598e642d37b51aee60a095920b09775d3e3c5965c4fae1307d5ed6fa418", func := "loop.example/g00343/laws.FnExactWorldFault", spec := "fnExactWorldFault", unfollowed := true, recurses := true, apart := false, narrowed := true }
def FnExactWorldFaultUptoSaid : Prop := fnExactWorldFaultUptoRow.holds Tryz.pinned (OpenSpec.upto fnExactWorldFaultSpec)

end Rows
end Go.Proofs.YtelhpkghpoldlaaGreat
