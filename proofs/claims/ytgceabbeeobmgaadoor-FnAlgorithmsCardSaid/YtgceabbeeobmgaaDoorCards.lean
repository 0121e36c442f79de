/-
  DERIVED. GIVEN WITH THE SEED: THE CARDS: each row of YtgceabbeeobmgaaDoorRows.lean that lists a variable, with what it lists TIED to the program's text (the seventh form; the later family's looks); each row that meets fmt, with fmt's text TOLD by the authors' own Lean function (tested against real Go, not proved from fmt's source: count such statements apart). THE CARD IS WHAT COUNTS. Prove the row's statement (the work); the ties are given (YtgceabbeeobmgaaDoorTie.lean); close each card by the builder's one call (the guide's Derived/Test/ToyasCard.lean, 'card_holds'). Laid BY PROGRAM, IN A SANDBOX (cutbox-door.mjs). By AI agents, Wed Nov 11 2026. No macro, syntax, notation, axiom, sorry.
-/
import Derived.Test.YtgceabbeeobmgaaDoorRows
import GoSem.ClaimSeven
namespace Go.Proofs.YtgceabbeeobmgaaDoor
namespace Rows

/-- THE TIED CARD OF 'laws.FnAlgorithms'. -/
def fnAlgorithmsCard : Claim7 := { stood := { row := fnAlgorithmsRow, standIns := [], harness := (true, "111dfbbbba21920a3e521043a3d345cbdd150093f03aaefc817050c3b42a8630"), looks := true }, kinds := [], alts := [], laidByText := true, laidKinds := [.data, .pinned], laidTests := true, laidLooks := .later }
def FnAlgorithmsCardSaid : Prop := Claim7.holds Tryd.pinned (.plain (OpenSpec.ofChange fnAlgorithmsSpec)) fnAlgorithmsCard

/-- THE TIED CARD OF 'laws.FnExactFormatTag'. -/
def fnExactFormatTagCard : Claim7 := { stood := { row := fnExactFormatTagRow, standIns := [], harness := (true, "111dfbbbba21920a3e521043a3d345cbdd150093f03aaefc817050c3b42a8630"), looks := true }, kinds := [], alts := [], laidByText := true, laidKinds := [.data, .data, .data], laidTests := true, laidLooks := .later }
def FnExactFormatTagCardSaid : Prop := Claim7.holds Tryd.pinned (.plain (OpenSpec.ofChange fnExactFormatTagSpec)) fnExactFormatTagCard

/-- THE TIED CARD OF 'laws.FnExactParseTag'. -/
def fnExactParseTagCard : Claim7 := { stood := { row := fnExactParseTagRow, standIns := [], harness := (true, "111dfbbbba21920a3e521043a3d345cbdd150093f03aaefc817050c3b42a8630"), looks := true }, kinds := [], alts := [], laidByText := true, laidKinds := [.data, .data, .data, .data, .sentinel, .sentinel, .pinned], laidTests := true, laidLooks := .later }
def FnExactParseTagCardSaid : Prop := Claim7.holds Tryd.pinned (.plain (OpenSpec.ofChange fnExactParseTagSpec)) fnExactParseTagCard

/-- THE SECOND FORM's CARD OF 'laws.FnAlgorithms'. -/
def fnAlgorithmsUptoCard : Claim7 := { stood := { row := fnAlgorithmsUptoRow, standIns := [], harness := (true, "111dfbbbba21920a3e521043a3d345cbdd150093f03aaefc817050c3b42a8630"), looks := true }, kinds := [], alts := [], laidByText := true, laidKinds := [.data, .pinned], laidTests := true, laidLooks := .later }
def FnAlgorithmsUptoCardSaid : Prop := Claim7.holds Tryd.pinned (.plain (OpenSpec.upto fnAlgorithmsSpec)) fnAlgorithmsUptoCard

/-- THE SECOND FORM's CARD OF 'laws.FnExactFormatTag'. -/
def fnExactFormatTagUptoCard : Claim7 := { stood := { row := fnExactFormatTagUptoRow, standIns := [], harness := (true, "111dfbbbba21920a3e521043a3d345cbdd150093f03aaefc817050c3b42a8630"), looks := true }, kinds := [], alts := [], laidByText := true, laidKinds := [.data, .data, .data], laidTests := true, laidLooks := .later }
def FnExactFormatTagUptoCardSaid : Prop := Claim7.holds Tryd.pinned (.plain (OpenSpec.upto fnExactFormatTagSpec)) fnExactFormatTagUptoCard

/-- THE SECOND FORM's CARD OF 'laws.FnExactParseTag'. -/
def fnExactParseTagUptoCard : Claim7 := { stood := { row := fnExactParseTagUptoRow, standIns := [], harness := (true, "111dfbbbba21920a3e521043a3d345cbdd150093f03aaefc817050c3b42a8630"), looks := true }, kinds := [], alts := [], laidByText := true, laidKinds := [.data, .data, .data, .data, .sentinel, .sentinel, .pinned], laidTests := true, laidLooks := .later }
def FnExactParseTagUptoCardSaid : Prop := Claim7.holds Tryd.pinned (.plain (OpenSpec.upto fnExactParseTagSpec)) fnExactParseTagUptoCard
end Rows
end Go.Proofs.YtgceabbeeobmgaaDoor
