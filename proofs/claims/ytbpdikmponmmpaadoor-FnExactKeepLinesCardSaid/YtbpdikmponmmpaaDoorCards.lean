/-
  DERIVED. GIVEN WITH THE SEED: THE CARDS: each row of YtbpdikmponmmpaaDoorRows.lean that lists a variable, with what it lists TIED to the program's text (the seventh form; the later family's looks); each row that meets fmt, with fmt's text TOLD by the authors' own Lean function (tested against real Go, not proved from fmt's source: count such statements apart). THE CARD IS WHAT COUNTS. Prove the row's statement (the work); the ties are given (YtbpdikmponmmpaaDoorTie.lean); close each card by the builder's one call (the guide's Derived/Test/ToyasCard.lean, 'card_holds'). Laid BY PROGRAM, IN A SANDBOX (cutbox-door.mjs). By AI agents, Wed Nov 11 2026. No macro, syntax, notation, axiom, sorry.
-/
import Derived.Test.YtbpdikmponmmpaaDoorRows
import GoSem.ClaimSeven
namespace Go.Proofs.YtbpdikmponmmpaaDoor
namespace Rows

/-- THE TIED CARD OF 'laws.FnExactWordsOf'. -/
def fnExactWordsOfCard : Claim7 := { stood := { row := fnExactWordsOfRow, standIns := [], harness := (true, "0ac6fc0401647eba452acbbb9b9883540031d81548bed264e48a7a264fe99aea"), looks := true }, kinds := [], alts := [], laidByText := true, laidKinds := [.data, .pinned], laidTests := true, laidLooks := .later }
def FnExactWordsOfCardSaid : Prop := Claim7.holds Tryd.pinned (.plain (OpenSpec.ofChange fnExactWordsOfSpec)) fnExactWordsOfCard

/-- THE TIED CARD OF 'laws.FnExactInstOf'. -/
def fnExactInstOfCard : Claim7 := { stood := { row := fnExactInstOfRow, standIns := [], harness := (true, "0ac6fc0401647eba452acbbb9b9883540031d81548bed264e48a7a264fe99aea"), looks := true }, kinds := [], alts := [], laidByText := true, laidKinds := [.data, .data, .data, .data, .sentinel, .sentinel, .widerDeep, .pinned], laidTests := true, laidLooks := .later }
def FnExactInstOfCardSaid : Prop := Claim7.holds Tryd.pinned (.plain (OpenSpec.ofChange fnExactInstOfSpec)) fnExactInstOfCard

/-- THE TIED CARD OF 'laws.FnExactKeepLines'. -/
def fnExactKeepLinesCard : Claim7 := { stood := { row := fnExactKeepLinesRow, standIns := [], harness := (true, "0ac6fc0401647eba452acbbb9b9883540031d81548bed264e48a7a264fe99aea"), looks := true }, kinds := [], alts := [], laidByText := true, laidKinds := [.data, .data, .data, .data, .sentinel, .sentinel, .widerDeep, .pinned], laidTests := true, laidLooks := .later }
def FnExactKeepLinesCardSaid : Prop := Claim7.holds Tryd.pinned (.plain (OpenSpec.ofChange fnExactKeepLinesSpec)) fnExactKeepLinesCard

/-- THE SECOND FORM's CARD OF 'laws.FnExactWordsOf'. -/
def fnExactWordsOfUptoCard : Claim7 := { stood := { row := fnExactWordsOfUptoRow, standIns := [], harness := (true, "0ac6fc0401647eba452acbbb9b9883540031d81548bed264e48a7a264fe99aea"), looks := true }, kinds := [], alts := [], laidByText := true, laidKinds := [.data, .pinned], laidTests := true, laidLooks := .later }
def FnExactWordsOfUptoCardSaid : Prop := Claim7.holds Tryd.pinned (.plain (OpenSpec.upto fnExactWordsOfSpec)) fnExactWordsOfUptoCard

/-- THE SECOND FORM's CARD OF 'laws.FnExactInstOf'. -/
def fnExactInstOfUptoCard : Claim7 := { stood := { row := fnExactInstOfUptoRow, standIns := [], harness := (true, "0ac6fc0401647eba452acbbb9b9883540031d81548bed264e48a7a264fe99aea"), looks := true }, kinds := [], alts := [], laidByText := true, laidKinds := [.data, .data, .data, .data, .sentinel, .sentinel, .widerDeep, .pinned], laidTests := true, laidLooks := .later }
def FnExactInstOfUptoCardSaid : Prop := Claim7.holds Tryd.pinned (.plain (OpenSpec.upto fnExactInstOfSpec)) fnExactInstOfUptoCard

/-- THE SECOND FORM's CARD OF 'laws.FnExactKeepLines'. -/
def fnExactKeepLinesUptoCard : Claim7 := { stood := { row := fnExactKeepLinesUptoRow, standIns := [], harness := (true, "0ac6fc0401647eba452acbbb9b9883540031d81548bed264e48a7a264fe99aea"), looks := true }, kinds := [], alts := [], laidByText := true, laidKinds := [.data, .data, .data, .data, .sentinel, .sentinel, .widerDeep, .pinned], laidTests := true, laidLooks := .later }
def FnExactKeepLinesUptoCardSaid : Prop := Claim7.holds Tryd.pinned (.plain (OpenSpec.upto fnExactKeepLinesSpec)) fnExactKeepLinesUptoCard
end Rows
end Go.Proofs.YtbpdikmponmmpaaDoor
