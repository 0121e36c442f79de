/-
  No cell of these rows narrows 'for every input' (looked for: loops, veiled, ifaces, maps, wideKeys, modest, calm, conditions, laid).
  DERIVED. THE GIVEN ROWS OF THIS SEAT. 12 by the template 'for every input the law returns true; each argument reads behind the call as it read before'; 0 by the template 'total and deterministic' (their statements: YtpbaccpojihpmaaTotals.lean).
  GIVEN WITH THE SEED: the statements are not yours to turn. If you find one false, say at which input.
  Laid BY PROGRAM, IN A SANDBOX (cutbox-rows.mjs): the forced cells as the released guide's own fill.sh prints them over the translation 137f124cc20ddb18… (all of the seat's roots in one cut). By AI agents, Wed Nov 11 2026. No macro, syntax, notation, axiom, sorry.
-/
import Derived.Test.YtpbaccpojihpmaaChecked
import GoSem.Claim
import GoSem.ClaimJoined
import GoSem.ClaimMapViews
import Derived.JoinedTies
import Derived.KernelRfl
namespace Go.Proofs.Ytpbaccpojihpmaa
/- THE CELL 'sum', in the pinned program and in every row, IS THE sha256 OF THE DUMP (.gsa) THAT YtpbaccpojihpmaaProg.lean LOADS. Nothing in Lean hashes anything: it is a label: what it is worth is what the hold of that sum in a sandbox is worth. -/
noncomputable def Try.pinned : Pinned := { name := "ytpbaccpojihpmaa", sum := "137f124cc20ddb18b8b8fc5e045e06d57c14ec79f0803a65fbbfd5932a2c2477", checked := Try.checked }
namespace Rows
def none {H : Type} : Left H := { results := [], args := [] }

/-- 'laws.FnExactTurnProof': WHATEVER THE INPUT: true; the input reads as it did. -/
def fnExactTurnProofSpec : ChangeSpec := { name := "fnExactTurnProof", fn := fun _ => fun
  | [d] => { results := [.lit (.bool true)], args := [d] }
  | _ => none }
def fnExactTurnProofRow : OpenClaim := { program := "ytpbaccpojihpmaa", sum := "137f124cc20ddb18b8b8fc5e045e06d57c14ec79f0803a65fbbfd5932a2c2477", func := "loop.example/g03201/laws.FnExactTurnProof", spec := "fnExactTurnProof", apart := false }
def FnExactTurnProofSaid : Prop := fnExactTurnProofRow.holds Try.pinned (OpenSpec.ofChange fnExactTurnProofSpec)

/-- ITS FALSE NEIGHBOUR: 'it returns false'. Refute it at one input. -/
def fnExactTurnProofWrong : ChangeSpec := { name := "fnExactTurnProof", fn := fun _ => fun
  | [d] => { results := [.lit (.bool false)], args := [d] }
  | _ => none }
def FnExactTurnProofWrongFalsely : Prop := fnExactTurnProofRow.holds Try.pinned (OpenSpec.ofChange fnExactTurnProofWrong)

/-- 'laws.FnExactOppositeTable': WHATEVER THE INPUT: true; the input reads as it did. -/
def fnExactOppositeTableSpec : ChangeSpec := { name := "fnExactOppositeTable", fn := fun _ => fun
  | [d] => { results := [.lit (.bool true)], args := [d] }
  | _ => none }
def fnExactOppositeTableRow : OpenClaim := { program := "ytpbaccpojihpmaa", sum := "137f124cc20ddb18b8b8fc5e045e06d57c14ec79f0803a65fbbfd5932a2c2477", func := "loop.example/g03201/laws.FnExactOppositeTable", spec := "fnExactOppositeTable", unfollowed := true, recurses := true, apart := false }
def FnExactOppositeTableSaid : Prop := fnExactOppositeTableRow.holds Try.pinned (OpenSpec.ofChange fnExactOppositeTableSpec)

/-- ITS FALSE NEIGHBOUR: 'it returns false'. Refute it at one input. -/
def fnExactOppositeTableWrong : ChangeSpec := { name := "fnExactOppositeTable", fn := fun _ => fun
  | [d] => { results := [.lit (.bool false)], args := [d] }
  | _ => none }
def FnExactOppositeTableWrongFalsely : Prop := fnExactOppositeTableRow.holds Try.pinned (OpenSpec.ofChange fnExactOppositeTableWrong)

/-- 'laws.FnExactProductTable': WHATEVER THE INPUT: true; the input reads as it did. -/
def fnExactProductTableSpec : ChangeSpec := { name := "fnExactProductTable", fn := fun _ => fun
  | [d1, d2] => { results := [.lit (.bool true)], args := [d1, d2] }
  | _ => none }
def fnExactProductTableRow : OpenClaim := { program := "ytpbaccpojihpmaa", sum := "137f124cc20ddb18b8b8fc5e045e06d57c14ec79f0803a65fbbfd5932a2c2477", func := "loop.example/g03201/laws.FnExactProductTable", spec := "fnExactProductTable", unfollowed := true, recurses := true, apart := false }
def FnExactProductTableSaid : Prop := fnExactProductTableRow.holds Try.pinned (OpenSpec.ofChange fnExactProductTableSpec)

/-- ITS FALSE NEIGHBOUR: 'it returns false'. Refute it at one input. -/
def fnExactProductTableWrong : ChangeSpec := { name := "fnExactProductTable", fn := fun _ => fun
  | [d1, d2] => { results := [.lit (.bool false)], args := [d1, d2] }
  | _ => none }
def FnExactProductTableWrongFalsely : Prop := fnExactProductTableRow.holds Try.pinned (OpenSpec.ofChange fnExactProductTableWrong)

/-- 'laws.FnExactFormatOrders': WHATEVER THE INPUT: true; the input reads as it did. -/
def fnExactFormatOrdersSpec : ChangeSpec := { name := "fnExactFormatOrders", fn := fun _ => fun
  | [d] => { results := [.lit (.bool true)], args := [d] }
  | _ => none }
def fnExactFormatOrdersRow : OpenClaim := { program := "ytpbaccpojihpmaa", sum := "137f124cc20ddb18b8b8fc5e045e06d57c14ec79f0803a65fbbfd5932a2c2477", func := "loop.example/g03201/laws.FnExactFormatOrders", spec := "fnExactFormatOrders", inPlace := ["internal/abi.NoEscape", "internal/bytealg.MakeNoZero"], apart := false }
def FnExactFormatOrdersSaid : Prop := fnExactFormatOrdersRow.holds Try.pinned (OpenSpec.ofChange fnExactFormatOrdersSpec)

/-- ITS FALSE NEIGHBOUR: 'it returns false'. Refute it at one input. -/
def fnExactFormatOrdersWrong : ChangeSpec := { name := "fnExactFormatOrders", fn := fun _ => fun
  | [d] => { results := [.lit (.bool false)], args := [d] }
  | _ => none }
def FnExactFormatOrdersWrongFalsely : Prop := fnExactFormatOrdersRow.holds Try.pinned (OpenSpec.ofChange fnExactFormatOrdersWrong)

/-- 'laws.FnExactApplyLink': WHATEVER THE INPUT: true; the input reads as it did. -/
def fnExactApplyLinkSpec : ChangeSpec := { name := "fnExactApplyLink", fn := fun _ => fun
  | [d1, d2, d3] => { results := [.lit (.bool true)], args := [d1, d2, d3] }
  | _ => none }
def fnExactApplyLinkRow : OpenClaim := { program := "ytpbaccpojihpmaa", sum := "137f124cc20ddb18b8b8fc5e045e06d57c14ec79f0803a65fbbfd5932a2c2477", func := "loop.example/g03201/laws.FnExactApplyLink", spec := "fnExactApplyLink", unfollowed := true, recurses := true, apart := false }
def FnExactApplyLinkSaid : Prop := fnExactApplyLinkRow.holds Try.pinned (OpenSpec.ofChange fnExactApplyLinkSpec)

/-- ITS FALSE NEIGHBOUR: 'it returns false'. Refute it at one input. -/
def fnExactApplyLinkWrong : ChangeSpec := { name := "fnExactApplyLink", fn := fun _ => fun
  | [d1, d2, d3] => { results := [.lit (.bool false)], args := [d1, d2, d3] }
  | _ => none }
def FnExactApplyLinkWrongFalsely : Prop := fnExactApplyLinkRow.holds Try.pinned (OpenSpec.ofChange fnExactApplyLinkWrong)

/-- 'laws.FnExactKeepsWeight': WHATEVER THE INPUT: true; the input reads as it did. -/
def fnExactKeepsWeightSpec : ChangeSpec := { name := "fnExactKeepsWeight", fn := fun _ => fun
  | [d1, d2, d3] => { results := [.lit (.bool true)], args := [d1, d2, d3] }
  | _ => none }
def fnExactKeepsWeightRow : OpenClaim := { program := "ytpbaccpojihpmaa", sum := "137f124cc20ddb18b8b8fc5e045e06d57c14ec79f0803a65fbbfd5932a2c2477", func := "loop.example/g03201/laws.FnExactKeepsWeight", spec := "fnExactKeepsWeight", unfollowed := true, recurses := true, apart := false }
def FnExactKeepsWeightSaid : Prop := fnExactKeepsWeightRow.holds Try.pinned (OpenSpec.ofChange fnExactKeepsWeightSpec)

/-- ITS FALSE NEIGHBOUR: 'it returns false'. Refute it at one input. -/
def fnExactKeepsWeightWrong : ChangeSpec := { name := "fnExactKeepsWeight", fn := fun _ => fun
  | [d1, d2, d3] => { results := [.lit (.bool false)], args := [d1, d2, d3] }
  | _ => none }
def FnExactKeepsWeightWrongFalsely : Prop := fnExactKeepsWeightRow.holds Try.pinned (OpenSpec.ofChange fnExactKeepsWeightWrong)

/-- 'laws.FnExactCountWeights': WHATEVER THE INPUT: true; the input reads as it did. -/
def fnExactCountWeightsSpec : ChangeSpec := { name := "fnExactCountWeights", fn := fun _ => fun
  | [d1, d2] => { results := [.lit (.bool true)], args := [d1, d2] }
  | _ => none }
def fnExactCountWeightsRow : OpenClaim := { program := "ytpbaccpojihpmaa", sum := "137f124cc20ddb18b8b8fc5e045e06d57c14ec79f0803a65fbbfd5932a2c2477", func := "loop.example/g03201/laws.FnExactCountWeights", spec := "fnExactCountWeights", unfollowed := true, recurses := true, apart := false }
def FnExactCountWeightsSaid : Prop := fnExactCountWeightsRow.holds Try.pinned (OpenSpec.ofChange fnExactCountWeightsSpec)

/-- ITS FALSE NEIGHBOUR: 'it returns false'. Refute it at one input. -/
def fnExactCountWeightsWrong : ChangeSpec := { name := "fnExactCountWeights", fn := fun _ => fun
  | [d1, d2] => { results := [.lit (.bool false)], args := [d1, d2] }
  | _ => none }
def FnExactCountWeightsWrongFalsely : Prop := fnExactCountWeightsRow.holds Try.pinned (OpenSpec.ofChange fnExactCountWeightsWrong)

/-- 'laws.FnExactTableSystem': WHATEVER THE INPUT: true; the input reads as it did. -/
def fnExactTableSystemSpec : ChangeSpec := { name := "fnExactTableSystem", fn := fun _ => fun
  | [d] => { results := [.lit (.bool true)], args := [d] }
  | _ => none }
def fnExactTableSystemRow : OpenClaim := { program := "ytpbaccpojihpmaa", sum := "137f124cc20ddb18b8b8fc5e045e06d57c14ec79f0803a65fbbfd5932a2c2477", func := "loop.example/g03201/laws.FnExactTableSystem", spec := "fnExactTableSystem", unfollowed := true, recurses := true, apart := false }
def FnExactTableSystemSaid : Prop := fnExactTableSystemRow.holds Try.pinned (OpenSpec.ofChange fnExactTableSystemSpec)

/-- ITS FALSE NEIGHBOUR: 'it returns false'. Refute it at one input. -/
def fnExactTableSystemWrong : ChangeSpec := { name := "fnExactTableSystem", fn := fun _ => fun
  | [d] => { results := [.lit (.bool false)], args := [d] }
  | _ => none }
def FnExactTableSystemWrongFalsely : Prop := fnExactTableSystemRow.holds Try.pinned (OpenSpec.ofChange fnExactTableSystemWrong)

/-- 'laws.FnExactIsReduced': WHATEVER THE INPUT: true; the input reads as it did. -/
def fnExactIsReducedSpec : ChangeSpec := { name := "fnExactIsReduced", fn := fun _ => fun
  | [d1, d2] => { results := [.lit (.bool true)], args := [d1, d2] }
  | _ => none }
def fnExactIsReducedRow : OpenClaim := { program := "ytpbaccpojihpmaa", sum := "137f124cc20ddb18b8b8fc5e045e06d57c14ec79f0803a65fbbfd5932a2c2477", func := "loop.example/g03201/laws.FnExactIsReduced", spec := "fnExactIsReduced", unfollowed := true, recurses := true, apart := false }
def FnExactIsReducedSaid : Prop := fnExactIsReducedRow.holds Try.pinned (OpenSpec.ofChange fnExactIsReducedSpec)

/-- ITS FALSE NEIGHBOUR: 'it returns false'. Refute it at one input. -/
def fnExactIsReducedWrong : ChangeSpec := { name := "fnExactIsReduced", fn := fun _ => fun
  | [d1, d2] => { results := [.lit (.bool false)], args := [d1, d2] }
  | _ => none }
def FnExactIsReducedWrongFalsely : Prop := fnExactIsReducedRow.holds Try.pinned (OpenSpec.ofChange fnExactIsReducedWrong)

/-- 'laws.FnExactCyclicSystem': WHATEVER THE INPUT: true; the input reads as it did. -/
def fnExactCyclicSystemSpec : ChangeSpec := { name := "fnExactCyclicSystem", fn := fun _ => fun
  | [d] => { results := [.lit (.bool true)], args := [d] }
  | _ => none }
def fnExactCyclicSystemRow : OpenClaim := { program := "ytpbaccpojihpmaa", sum := "137f124cc20ddb18b8b8fc5e045e06d57c14ec79f0803a65fbbfd5932a2c2477", func := "loop.example/g03201/laws.FnExactCyclicSystem", spec := "fnExactCyclicSystem", inPlace := ["internal/abi.NoEscape", "internal/bytealg.MakeNoZero"], apart := false }
def FnExactCyclicSystemSaid : Prop := fnExactCyclicSystemRow.holds Try.pinned (OpenSpec.ofChange fnExactCyclicSystemSpec)

/-- ITS FALSE NEIGHBOUR: 'it returns false'. Refute it at one input. -/
def fnExactCyclicSystemWrong : ChangeSpec := { name := "fnExactCyclicSystem", fn := fun _ => fun
  | [d] => { results := [.lit (.bool false)], args := [d] }
  | _ => none }
def FnExactCyclicSystemWrongFalsely : Prop := fnExactCyclicSystemRow.holds Try.pinned (OpenSpec.ofChange fnExactCyclicSystemWrong)

/-- 'laws.FnExactLeastApart': WHATEVER THE INPUT: true; the input reads as it did. -/
def fnExactLeastApartSpec : ChangeSpec := { name := "fnExactLeastApart", fn := fun _ => fun
  | [d1, d2, d3] => { results := [.lit (.bool true)], args := [d1, d2, d3] }
  | _ => none }
def fnExactLeastApartRow : OpenClaim := { program := "ytpbaccpojihpmaa", sum := "137f124cc20ddb18b8b8fc5e045e06d57c14ec79f0803a65fbbfd5932a2c2477", func := "loop.example/g03201/laws.FnExactLeastApart", spec := "fnExactLeastApart", unfollowed := true, recurses := true, apart := false }
def FnExactLeastApartSaid : Prop := fnExactLeastApartRow.holds Try.pinned (OpenSpec.ofChange fnExactLeastApartSpec)

/-- ITS FALSE NEIGHBOUR: 'it returns false'. Refute it at one input. -/
def fnExactLeastApartWrong : ChangeSpec := { name := "fnExactLeastApart", fn := fun _ => fun
  | [d1, d2, d3] => { results := [.lit (.bool false)], args := [d1, d2, d3] }
  | _ => none }
def FnExactLeastApartWrongFalsely : Prop := fnExactLeastApartRow.holds Try.pinned (OpenSpec.ofChange fnExactLeastApartWrong)

/-- 'laws.FnExactOrderFor': WHATEVER THE INPUT: true; the input reads as it did. -/
def fnExactOrderForSpec : ChangeSpec := { name := "fnExactOrderFor", fn := fun _ => fun
  | [d1, d2] => { results := [.lit (.bool true)], args := [d1, d2] }
  | _ => none }
def fnExactOrderForRow : OpenClaim := { program := "ytpbaccpojihpmaa", sum := "137f124cc20ddb18b8b8fc5e045e06d57c14ec79f0803a65fbbfd5932a2c2477", func := "loop.example/g03201/laws.FnExactOrderFor", spec := "fnExactOrderFor", inPlace := ["internal/bytealg.IndexByteString", "internal/bytealg.IndexString"], unfollowed := true, recurses := true, named := ["internal/bytealg.MaxLen"], apart := false }
def FnExactOrderForSaid : Prop := fnExactOrderForRow.holds Try.pinned (OpenSpec.ofChange fnExactOrderForSpec)

/-- ITS FALSE NEIGHBOUR: 'it returns false'. Refute it at one input. -/
def fnExactOrderForWrong : ChangeSpec := { name := "fnExactOrderFor", fn := fun _ => fun
  | [d1, d2] => { results := [.lit (.bool false)], args := [d1, d2] }
  | _ => none }
def FnExactOrderForWrongFalsely : Prop := fnExactOrderForRow.holds Try.pinned (OpenSpec.ofChange fnExactOrderForWrong)

/- THE SECOND FORM. 'bulk': how many values and letters a reading holds, each counted each time it is reached (what is shared counts as often as it is met; a slice's spare places count too). A statement '..UptoSaid' is the law's where the arguments, and the package variables that the reading takes, are together of bulk at most 1048576: NARROWER than '..Said'. Prove '..Said' where nothing that the law and all that it calls make is longer than what came in: it says more and counts as full. Else prove '..UptoSaid'. A law counts once. -/
mutual
def uptoBulk {H : Type} : DataW H → Nat
  | .lit (.string bytes) => bytes.length + 1
  | .lit _ => 1
  | .nil => 1
  | .ptr d => uptoBulk d + 1
  | .slice elems spare => uptoBulkAll elems + uptoBulkAll spare + 1
  | .agg parts => uptoBulkAll parts + 1
  | .iface _ d => uptoBulk d + 1
  | .map entries => uptoBulkEntries entries + 1
  | .held _ => 1
def uptoBulkAll {H : Type} : List (DataW H) → Nat
  | [] => 0
  | d :: r => uptoBulk d + uptoBulkAll r
def uptoBulkEntries {H : Type} : List (Lit × DataW H) → Nat
  | [] => 0
  | x :: r => uptoBulkEntry x + uptoBulkEntries r
def uptoBulkEntry {H : Type} : Lit × DataW H → Nat
  | (.string bytes, d) => bytes.length + uptoBulk d + 1
  | (_, d) => uptoBulk d + 1
 end
def uptoSmall : (H : Type) → List (DataW H) → Bool := fun _ ds => decide (uptoBulkAll ds ≤ 1048576)
def OpenSpec.upto (s : _root_.Go.ChangeSpec) : _root_.Go.OpenSpec := { _root_.Go.OpenSpec.ofChange s with cond := some uptoSmall }

/-- 'laws.FnExactTurnProof', WHERE WHAT IT READS IS OF BULK AT MOST 1048576: true; the input reads as it did. -/
def fnExactTurnProofUptoRow : OpenClaim := { program := "ytpbaccpojihpmaa", sum := "137f124cc20ddb18b8b8fc5e045e06d57c14ec79f0803a65fbbfd5932a2c2477", func := "loop.example/g03201/laws.FnExactTurnProof", spec := "fnExactTurnProof", apart := false, narrowed := true }
def FnExactTurnProofUptoSaid : Prop := fnExactTurnProofUptoRow.holds Try.pinned (OpenSpec.upto fnExactTurnProofSpec)

/-- 'laws.FnExactOppositeTable', WHERE WHAT IT READS IS OF BULK AT MOST 1048576: true; the input reads as it did. -/
def fnExactOppositeTableUptoRow : OpenClaim := { program := "ytpbaccpojihpmaa", sum := "137f124cc20ddb18b8b8fc5e045e06d57c14ec79f0803a65fbbfd5932a2c2477", func := "loop.example/g03201/laws.FnExactOppositeTable", spec := "fnExactOppositeTable", unfollowed := true, recurses := true, apart := false, narrowed := true }
def FnExactOppositeTableUptoSaid : Prop := fnExactOppositeTableUptoRow.holds Try.pinned (OpenSpec.upto fnExactOppositeTableSpec)

/-- 'laws.FnExactProductTable', WHERE WHAT IT READS IS OF BULK AT MOST 1048576: true; the input reads as it did. -/
def fnExactProductTableUptoRow : OpenClaim := { program := "ytpbaccpojihpmaa", sum := "137f124cc20ddb18b8b8fc5e045e06d57c14ec79f0803a65fbbfd5932a2c2477", func := "loop.example/g03201/laws.FnExactProductTable", spec := "fnExactProductTable", unfollowed := true, recurses := true, apart := false, narrowed := true }
def FnExactProductTableUptoSaid : Prop := fnExactProductTableUptoRow.holds Try.pinned (OpenSpec.upto fnExactProductTableSpec)

/-- 'laws.FnExactFormatOrders', WHERE WHAT IT READS IS OF BULK AT MOST 1048576: true; the input reads as it did. -/
def fnExactFormatOrdersUptoRow : OpenClaim := { program := "ytpbaccpojihpmaa", sum := "137f124cc20ddb18b8b8fc5e045e06d57c14ec79f0803a65fbbfd5932a2c2477", func := "loop.example/g03201/laws.FnExactFormatOrders", spec := "fnExactFormatOrders", inPlace := ["internal/abi.NoEscape", "internal/bytealg.MakeNoZero"], apart := false, narrowed := true }
def FnExactFormatOrdersUptoSaid : Prop := fnExactFormatOrdersUptoRow.holds Try.pinned (OpenSpec.upto fnExactFormatOrdersSpec)

/-- 'laws.FnExactApplyLink', WHERE WHAT IT READS IS OF BULK AT MOST 1048576: true; the input reads as it did. -/
def fnExactApplyLinkUptoRow : OpenClaim := { program := "ytpbaccpojihpmaa", sum := "137f124cc20ddb18b8b8fc5e045e06d57c14ec79f0803a65fbbfd5932a2c2477", func := "loop.example/g03201/laws.FnExactApplyLink", spec := "fnExactApplyLink", unfollowed := true, recurses := true, apart := false, narrowed := true }
def FnExactApplyLinkUptoSaid : Prop := fnExactApplyLinkUptoRow.holds Try.pinned (OpenSpec.upto fnExactApplyLinkSpec)

/-- 'laws.FnExactKeepsWeight', WHERE WHAT IT READS IS OF BULK AT MOST 1048576: true; the input reads as it did. -/
def fnExactKeepsWeightUptoRow : OpenClaim := { program := "ytpbaccpojihpmaa", sum := "137f124cc20ddb18b8b8fc5e045e06d57c14ec79f0803a65fbbfd5932a2c2477", func := "loop.example/g03201/laws.FnExactKeepsWeight", spec := "fnExactKeepsWeight", unfollowed := true, recurses := true, apart := false, narrowed := true }
def FnExactKeepsWeightUptoSaid : Prop := fnExactKeepsWeightUptoRow.holds Try.pinned (OpenSpec.upto fnExactKeepsWeightSpec)

/-- 'laws.FnExactCountWeights', WHERE WHAT IT READS IS OF BULK AT MOST 1048576: true; the input reads as it did. -/
def fnExactCountWeightsUptoRow : OpenClaim := { program := "ytpbaccpojihpmaa", sum := "137f124cc20ddb18b8b8fc5e045e06d57c14ec79f0803a65fbbfd5932a2c2477", func := "loop.example/g03201/laws.FnExactCountWeights", spec := "fnExactCountWeights", unfollowed := true, recurses := true, apart := false, narrowed := true }
def FnExactCountWeightsUptoSaid : Prop := fnExactCountWeightsUptoRow.holds Try.pinned (OpenSpec.upto fnExactCountWeightsSpec)

/-- 'laws.FnExactTableSystem', WHERE WHAT IT READS IS OF BULK AT MOST 1048576: true; the input reads as it did. -/
def fnExactTableSystemUptoRow : OpenClaim := { program := "ytpbaccpojihpmaa", sum := "137f124cc20ddb18b8b8fc5e045e06d57c14ec79f0803a65fbbfd5932a2c2477", func := "loop.example/g03201/laws.FnExactTableSystem", spec := "fnExactTableSystem", unfollowed := true, recurses := true, apart := false, narrowed := true }
def FnExactTableSystemUptoSaid : Prop := fnExactTableSystemUptoRow.holds Try.pinned (OpenSpec.upto fnExactTableSystemSpec)

/-- 'laws.FnExactIsReduced', WHERE WHAT IT READS IS OF BULK AT MOST 1048576: true; the input reads as it did. -/
def fnExactIsReducedUptoRow : OpenClaim := { program := "ytpbaccpojihpmaa", sum := "137f124cc20ddb18b8b8fc5e045e06d57c14ec79f0803a65fbbfd5932a2c2477", func := "loop.example/g03201/laws.FnExactIsReduced", spec := "fnExactIsReduced", unfollowed := true, recurses := true, apart := false, narrowed := true }
def FnExactIsReducedUptoSaid : Prop := fnExactIsReducedUptoRow.holds Try.pinned (OpenSpec.upto fnExactIsReducedSpec)

/-- 'laws.FnExactCyclicSystem', WHERE WHAT IT READS IS OF BULK AT MOST 1048576: true; the input reads as it did. -/
def fnExactCyclicSystemUptoRow : OpenClaim := { program := "ytpbaccpojihpmaa", sum := "137f124cc20ddb18b8b8fc5e045e06d57c14ec79f0803a65fbbfd5932a2c2477", func := "loop.example/g03201/laws.FnExactCyclicSystem", spec := "fnExactCyclicSystem", inPlace := ["internal/abi.NoEscape", "internal/bytealg.MakeNoZero"], apart := false, narrowed := true }
def FnExactCyclicSystemUptoSaid : Prop := fnExactCyclicSystemUptoRow.holds Try.pinned (OpenSpec.upto fnExactCyclicSystemSpec)

/-- 'laws.FnExactLeastApart', WHERE WHAT IT READS IS OF BULK AT MOST 1048576: true; the input reads as it did. -/
def fnExactLeastApartUptoRow : OpenClaim := { program := "ytpbaccpojihpmaa", sum := "137f124cc20ddb18b8b8fc5e045e06d57c14ec79f0803a65fbbfd5932a2c2477", func := "loop.example/g03201/laws.FnExactLeastApart", spec := "fnExactLeastApart", unfollowed := true, recurses := true, apart := false, narrowed := true }
def FnExactLeastApartUptoSaid : Prop := fnExactLeastApartUptoRow.holds Try.pinned (OpenSpec.upto fnExactLeastApartSpec)

/-- 'laws.FnExactOrderFor', WHERE WHAT IT READS IS OF BULK AT MOST 1048576: true; the input reads as it did. -/
def fnExactOrderForUptoRow : OpenClaim := { program := "ytpbaccpojihpmaa", sum := "137f124cc20ddb18b8b8fc5e045e06d57c14ec79f0803a65fbbfd5932a2c2477", func := "loop.example/g03201/laws.FnExactOrderFor", spec := "fnExactOrderFor", inPlace := ["internal/bytealg.IndexByteString", "internal/bytealg.IndexString"], unfollowed := true, recurses := true, named := ["internal/bytealg.MaxLen"], apart := false, narrowed := true }
def FnExactOrderForUptoSaid : Prop := fnExactOrderForUptoRow.holds Try.pinned (OpenSpec.upto fnExactOrderForSpec)

end Rows
end Go.Proofs.Ytpbaccpojihpmaa
