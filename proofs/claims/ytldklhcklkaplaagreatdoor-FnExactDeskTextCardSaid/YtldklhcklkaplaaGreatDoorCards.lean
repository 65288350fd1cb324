/-
  DERIVED. GIVEN WITH THE SEED: THE CARDS: each row of YtldklhcklkaplaaGreatDoorRows.lean that lists a variable, with what it lists TIED to the program's text (the seventh form; the later family's looks); each row that meets fmt, with fmt's text TOLD by the authors' own Lean function (tested against real Go, not proved from fmt's source: count such statements apart). THE CARD IS WHAT COUNTS. Prove the row's statement (the work); the ties are given (YtldklhcklkaplaaGreatDoorTie.lean); close each card by the builder's one call (the guide's Derived/Test/ToyasCard.lean, 'card_holds'). Laid BY PROGRAM, IN A SANDBOX (cutbox-door.mjs). By AI agents, Wed Nov 11 2026. No macro, syntax, notation, axiom, sorry.
-/
import Derived.Test.YtldklhcklkaplaaGreatDoorRows
import GoSem.ClaimSeven
namespace Go.Proofs.YtldklhcklkaplaaGreatDoor
namespace Rows

/-- THE TIED CARD OF 'laws.FnExactInstText'. -/
def fnExactInstTextCard : Claim7 := { stood := { row := fnExactInstTextRow, standIns := [], harness := (true, "9df182d417a731e15baf74acb6d6848082a2cd15f3d9d11c195f08f478750976"), looks := false }, kinds := [], alts := [], laidByText := true, laidKinds := [.data, .data, .data, .data], laidTests := true, laidLooks := .later }
def FnExactInstTextCardSaid : Prop := Claim7.holds Tryz.pinned (.plain (OpenSpec.ofChange fnExactInstTextSpec)) fnExactInstTextCard

/-- THE TIED CARD OF 'laws.FnExactDeskText'. -/
def fnExactDeskTextCard : Claim7 := { stood := { row := fnExactDeskTextRow, standIns := [], harness := (true, "9df182d417a731e15baf74acb6d6848082a2cd15f3d9d11c195f08f478750976"), looks := false }, kinds := [], alts := [], laidByText := true, laidKinds := [.data, .data, .data, .data], laidTests := true, laidLooks := .later }
def FnExactDeskTextCardSaid : Prop := Claim7.holds Tryz.pinned (.plain (OpenSpec.ofChange fnExactDeskTextSpec)) fnExactDeskTextCard

/-- THE SECOND FORM's CARD OF 'laws.FnExactInstText'. -/
def fnExactInstTextUptoCard : Claim7 := { stood := { row := fnExactInstTextUptoRow, standIns := [], harness := (true, "9df182d417a731e15baf74acb6d6848082a2cd15f3d9d11c195f08f478750976"), looks := false }, kinds := [], alts := [], laidByText := true, laidKinds := [.data, .data, .data, .data], laidTests := true, laidLooks := .later }
def FnExactInstTextUptoCardSaid : Prop := Claim7.holds Tryz.pinned (.plain (OpenSpec.upto fnExactInstTextSpec)) fnExactInstTextUptoCard

/-- THE SECOND FORM's CARD OF 'laws.FnExactDeskText'. -/
def fnExactDeskTextUptoCard : Claim7 := { stood := { row := fnExactDeskTextUptoRow, standIns := [], harness := (true, "9df182d417a731e15baf74acb6d6848082a2cd15f3d9d11c195f08f478750976"), looks := false }, kinds := [], alts := [], laidByText := true, laidKinds := [.data, .data, .data, .data], laidTests := true, laidLooks := .later }
def FnExactDeskTextUptoCardSaid : Prop := Claim7.holds Tryz.pinned (.plain (OpenSpec.upto fnExactDeskTextSpec)) fnExactDeskTextUptoCard
end Rows
end Go.Proofs.YtldklhcklkaplaaGreatDoor
