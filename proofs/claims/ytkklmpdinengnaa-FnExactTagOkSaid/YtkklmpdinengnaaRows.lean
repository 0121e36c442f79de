/-
  No cell of these rows narrows 'for every input' (looked for: loops, veiled, ifaces, maps, wideKeys, modest, calm, conditions, laid).
  DERIVED. THE GIVEN ROWS OF THIS SEAT. 12 by the template 'for every input the law returns true; each argument reads behind the call as it read before'; 0 by the template 'total and deterministic' (their statements: YtkklmpdinengnaaTotals.lean).
  GIVEN WITH THE SEED: the statements are not yours to turn. If you find one false, say at which input.
  Laid BY PROGRAM, IN A SANDBOX (cutbox-rows.mjs): the forced cells as the released guide's own fill.sh prints them over the translation ecaebbf6124bfc18… (all of the seat's roots in one cut). By AI agents, Wed Nov 11 2026. No macro, syntax, notation, axiom, sorry.
-/
import Derived.Test.YtkklmpdinengnaaChecked
import GoSem.Claim
import GoSem.ClaimJoined
import GoSem.ClaimMapViews
import Derived.JoinedTies
import Derived.KernelRfl
namespace Go.Proofs.Ytkklmpdinengnaa
/- THE CELL 'sum', in the pinned program and in every row, IS THE sha256 OF THE DUMP (.gsa) THAT YtkklmpdinengnaaProg.lean LOADS. Nothing in Lean hashes anything: it is a label: what it is worth is what the hold of that sum in a sandbox is worth. -/
noncomputable def Try.pinned : Pinned := { name := "ytkklmpdinengnaa", sum := "ecaebbf6124bfc18da95cc7ada3085213d2e160b3146da5405fdf06076815813", checked := Try.checked }
namespace Rows
def none {H : Type} : Left H := { results := [], args := [] }

/-- 'laws.FnExactWeightsOk': WHATEVER THE INPUT: true; the input reads as it did. -/
def fnExactWeightsOkSpec : ChangeSpec := { name := "fnExactWeightsOk", fn := fun _ => fun
  | [d1, d2] => { results := [.lit (.bool true)], args := [d1, d2] }
  | _ => none }
def fnExactWeightsOkRow : OpenClaim := { program := "ytkklmpdinengnaa", sum := "ecaebbf6124bfc18da95cc7ada3085213d2e160b3146da5405fdf06076815813", func := "loop.example/g03201/laws.FnExactWeightsOk", spec := "fnExactWeightsOk", unfollowed := true, recurses := true, apart := false }
def FnExactWeightsOkSaid : Prop := fnExactWeightsOkRow.holds Try.pinned (OpenSpec.ofChange fnExactWeightsOkSpec)

/-- ITS FALSE NEIGHBOUR: 'it returns false'. Refute it at one input. -/
def fnExactWeightsOkWrong : ChangeSpec := { name := "fnExactWeightsOk", fn := fun _ => fun
  | [d1, d2] => { results := [.lit (.bool false)], args := [d1, d2] }
  | _ => none }
def FnExactWeightsOkWrongFalsely : Prop := fnExactWeightsOkRow.holds Try.pinned (OpenSpec.ofChange fnExactWeightsOkWrong)

/-- 'laws.FnExactAddingOrders': WHATEVER THE INPUT: true; the input reads as it did. -/
def fnExactAddingOrdersSpec : ChangeSpec := { name := "fnExactAddingOrders", fn := fun _ => fun
  | [] => { results := [.lit (.bool true)], args := [] }
  | _ => none }
def fnExactAddingOrdersRow : OpenClaim := { program := "ytkklmpdinengnaa", sum := "ecaebbf6124bfc18da95cc7ada3085213d2e160b3146da5405fdf06076815813", func := "loop.example/g03201/laws.FnExactAddingOrders", spec := "fnExactAddingOrders", apart := false }
def FnExactAddingOrdersSaid : Prop := fnExactAddingOrdersRow.holds Try.pinned (OpenSpec.ofChange fnExactAddingOrdersSpec)

/-- ITS FALSE NEIGHBOUR: 'it returns false'. Refute it at one input. -/
def fnExactAddingOrdersWrong : ChangeSpec := { name := "fnExactAddingOrders", fn := fun _ => fun
  | [] => { results := [.lit (.bool false)], args := [] }
  | _ => none }
def FnExactAddingOrdersWrongFalsely : Prop := fnExactAddingOrdersRow.holds Try.pinned (OpenSpec.ofChange fnExactAddingOrdersWrong)

/-- 'laws.FnExactSortingOrders': WHATEVER THE INPUT: true; the input reads as it did. -/
def fnExactSortingOrdersSpec : ChangeSpec := { name := "fnExactSortingOrders", fn := fun _ => fun
  | [] => { results := [.lit (.bool true)], args := [] }
  | _ => none }
def fnExactSortingOrdersRow : OpenClaim := { program := "ytkklmpdinengnaa", sum := "ecaebbf6124bfc18da95cc7ada3085213d2e160b3146da5405fdf06076815813", func := "loop.example/g03201/laws.FnExactSortingOrders", spec := "fnExactSortingOrders", apart := false }
def FnExactSortingOrdersSaid : Prop := fnExactSortingOrdersRow.holds Try.pinned (OpenSpec.ofChange fnExactSortingOrdersSpec)

/-- ITS FALSE NEIGHBOUR: 'it returns false'. Refute it at one input. -/
def fnExactSortingOrdersWrong : ChangeSpec := { name := "fnExactSortingOrders", fn := fun _ => fun
  | [] => { results := [.lit (.bool false)], args := [] }
  | _ => none }
def FnExactSortingOrdersWrongFalsely : Prop := fnExactSortingOrdersRow.holds Try.pinned (OpenSpec.ofChange fnExactSortingOrdersWrong)

/-- 'laws.FnExactDoublingOrders': WHATEVER THE INPUT: true; the input reads as it did. -/
def fnExactDoublingOrdersSpec : ChangeSpec := { name := "fnExactDoublingOrders", fn := fun _ => fun
  | [] => { results := [.lit (.bool true)], args := [] }
  | _ => none }
def fnExactDoublingOrdersRow : OpenClaim := { program := "ytkklmpdinengnaa", sum := "ecaebbf6124bfc18da95cc7ada3085213d2e160b3146da5405fdf06076815813", func := "loop.example/g03201/laws.FnExactDoublingOrders", spec := "fnExactDoublingOrders", apart := false }
def FnExactDoublingOrdersSaid : Prop := fnExactDoublingOrdersRow.holds Try.pinned (OpenSpec.ofChange fnExactDoublingOrdersSpec)

/-- ITS FALSE NEIGHBOUR: 'it returns false'. Refute it at one input. -/
def fnExactDoublingOrdersWrong : ChangeSpec := { name := "fnExactDoublingOrders", fn := fun _ => fun
  | [] => { results := [.lit (.bool false)], args := [] }
  | _ => none }
def FnExactDoublingOrdersWrongFalsely : Prop := fnExactDoublingOrdersRow.holds Try.pinned (OpenSpec.ofChange fnExactDoublingOrdersWrong)

/-- 'laws.FnExactAddWeights': WHATEVER THE INPUT: true; the input reads as it did. -/
def fnExactAddWeightsSpec : ChangeSpec := { name := "fnExactAddWeights", fn := fun _ => fun
  | [d1, d2, d3] => { results := [.lit (.bool true)], args := [d1, d2, d3] }
  | _ => none }
def fnExactAddWeightsRow : OpenClaim := { program := "ytkklmpdinengnaa", sum := "ecaebbf6124bfc18da95cc7ada3085213d2e160b3146da5405fdf06076815813", func := "loop.example/g03201/laws.FnExactAddWeights", spec := "fnExactAddWeights", unfollowed := true, recurses := true, apart := false }
def FnExactAddWeightsSaid : Prop := fnExactAddWeightsRow.holds Try.pinned (OpenSpec.ofChange fnExactAddWeightsSpec)

/-- ITS FALSE NEIGHBOUR: 'it returns false'. Refute it at one input. -/
def fnExactAddWeightsWrong : ChangeSpec := { name := "fnExactAddWeights", fn := fun _ => fun
  | [d1, d2, d3] => { results := [.lit (.bool false)], args := [d1, d2, d3] }
  | _ => none }
def FnExactAddWeightsWrongFalsely : Prop := fnExactAddWeightsRow.holds Try.pinned (OpenSpec.ofChange fnExactAddWeightsWrong)

/-- 'laws.FnExactWeightOf': WHATEVER THE INPUT: true; the input reads as it did. -/
def fnExactWeightOfSpec : ChangeSpec := { name := "fnExactWeightOf", fn := fun _ => fun
  | [d1, d2, d3] => { results := [.lit (.bool true)], args := [d1, d2, d3] }
  | _ => none }
def fnExactWeightOfRow : OpenClaim := { program := "ytkklmpdinengnaa", sum := "ecaebbf6124bfc18da95cc7ada3085213d2e160b3146da5405fdf06076815813", func := "loop.example/g03201/laws.FnExactWeightOf", spec := "fnExactWeightOf", unfollowed := true, recurses := true, apart := false }
def FnExactWeightOfSaid : Prop := fnExactWeightOfRow.holds Try.pinned (OpenSpec.ofChange fnExactWeightOfSpec)

/-- ITS FALSE NEIGHBOUR: 'it returns false'. Refute it at one input. -/
def fnExactWeightOfWrong : ChangeSpec := { name := "fnExactWeightOf", fn := fun _ => fun
  | [d1, d2, d3] => { results := [.lit (.bool false)], args := [d1, d2, d3] }
  | _ => none }
def FnExactWeightOfWrongFalsely : Prop := fnExactWeightOfRow.holds Try.pinned (OpenSpec.ofChange fnExactWeightOfWrong)

/-- 'laws.FnExactBracketSystem': WHATEVER THE INPUT: true; the input reads as it did. -/
def fnExactBracketSystemSpec : ChangeSpec := { name := "fnExactBracketSystem", fn := fun _ => fun
  | [d] => { results := [.lit (.bool true)], args := [d] }
  | _ => none }
def fnExactBracketSystemRow : OpenClaim := { program := "ytkklmpdinengnaa", sum := "ecaebbf6124bfc18da95cc7ada3085213d2e160b3146da5405fdf06076815813", func := "loop.example/g03201/laws.FnExactBracketSystem", spec := "fnExactBracketSystem", apart := false }
def FnExactBracketSystemSaid : Prop := fnExactBracketSystemRow.holds Try.pinned (OpenSpec.ofChange fnExactBracketSystemSpec)

/-- ITS FALSE NEIGHBOUR: 'it returns false'. Refute it at one input. -/
def fnExactBracketSystemWrong : ChangeSpec := { name := "fnExactBracketSystem", fn := fun _ => fun
  | [d] => { results := [.lit (.bool false)], args := [d] }
  | _ => none }
def FnExactBracketSystemWrongFalsely : Prop := fnExactBracketSystemRow.holds Try.pinned (OpenSpec.ofChange fnExactBracketSystemWrong)

/-- 'laws.FnExactProjectorSystem': WHATEVER THE INPUT: true; the input reads as it did. -/
def fnExactProjectorSystemSpec : ChangeSpec := { name := "fnExactProjectorSystem", fn := fun _ => fun
  | [d] => { results := [.lit (.bool true)], args := [d] }
  | _ => none }
def fnExactProjectorSystemRow : OpenClaim := { program := "ytkklmpdinengnaa", sum := "ecaebbf6124bfc18da95cc7ada3085213d2e160b3146da5405fdf06076815813", func := "loop.example/g03201/laws.FnExactProjectorSystem", spec := "fnExactProjectorSystem", apart := false }
def FnExactProjectorSystemSaid : Prop := fnExactProjectorSystemRow.holds Try.pinned (OpenSpec.ofChange fnExactProjectorSystemSpec)

/-- ITS FALSE NEIGHBOUR: 'it returns false'. Refute it at one input. -/
def fnExactProjectorSystemWrong : ChangeSpec := { name := "fnExactProjectorSystem", fn := fun _ => fun
  | [d] => { results := [.lit (.bool false)], args := [d] }
  | _ => none }
def FnExactProjectorSystemWrongFalsely : Prop := fnExactProjectorSystemRow.holds Try.pinned (OpenSpec.ofChange fnExactProjectorSystemWrong)

/-- 'laws.FnExactTurnProof': WHATEVER THE INPUT: true; the input reads as it did. -/
def fnExactTurnProofSpec : ChangeSpec := { name := "fnExactTurnProof", fn := fun _ => fun
  | [d] => { results := [.lit (.bool true)], args := [d] }
  | _ => none }
def fnExactTurnProofRow : OpenClaim := { program := "ytkklmpdinengnaa", sum := "ecaebbf6124bfc18da95cc7ada3085213d2e160b3146da5405fdf06076815813", func := "loop.example/g03201/laws.FnExactTurnProof", spec := "fnExactTurnProof", apart := false }
def FnExactTurnProofSaid : Prop := fnExactTurnProofRow.holds Try.pinned (OpenSpec.ofChange fnExactTurnProofSpec)

/-- ITS FALSE NEIGHBOUR: 'it returns false'. Refute it at one input. -/
def fnExactTurnProofWrong : ChangeSpec := { name := "fnExactTurnProof", fn := fun _ => fun
  | [d] => { results := [.lit (.bool false)], args := [d] }
  | _ => none }
def FnExactTurnProofWrongFalsely : Prop := fnExactTurnProofRow.holds Try.pinned (OpenSpec.ofChange fnExactTurnProofWrong)

/-- 'laws.FnExactSortingSystem': WHATEVER THE INPUT: true; the input reads as it did. -/
def fnExactSortingSystemSpec : ChangeSpec := { name := "fnExactSortingSystem", fn := fun _ => fun
  | [d] => { results := [.lit (.bool true)], args := [d] }
  | _ => none }
def fnExactSortingSystemRow : OpenClaim := { program := "ytkklmpdinengnaa", sum := "ecaebbf6124bfc18da95cc7ada3085213d2e160b3146da5405fdf06076815813", func := "loop.example/g03201/laws.FnExactSortingSystem", spec := "fnExactSortingSystem", apart := false }
def FnExactSortingSystemSaid : Prop := fnExactSortingSystemRow.holds Try.pinned (OpenSpec.ofChange fnExactSortingSystemSpec)

/-- ITS FALSE NEIGHBOUR: 'it returns false'. Refute it at one input. -/
def fnExactSortingSystemWrong : ChangeSpec := { name := "fnExactSortingSystem", fn := fun _ => fun
  | [d] => { results := [.lit (.bool false)], args := [d] }
  | _ => none }
def FnExactSortingSystemWrongFalsely : Prop := fnExactSortingSystemRow.holds Try.pinned (OpenSpec.ofChange fnExactSortingSystemWrong)

/-- 'laws.FnExactTagOk': WHATEVER THE INPUT: true; the input reads as it did. -/
def fnExactTagOkSpec : ChangeSpec := { name := "fnExactTagOk", fn := fun _ => fun
  | [d] => { results := [.lit (.bool true)], args := [d] }
  | _ => none }
def fnExactTagOkRow : OpenClaim := { program := "ytkklmpdinengnaa", sum := "ecaebbf6124bfc18da95cc7ada3085213d2e160b3146da5405fdf06076815813", func := "loop.example/g03201/laws.FnExactTagOk", spec := "fnExactTagOk", unfollowed := true, recurses := true, apart := false }
def FnExactTagOkSaid : Prop := fnExactTagOkRow.holds Try.pinned (OpenSpec.ofChange fnExactTagOkSpec)

/-- ITS FALSE NEIGHBOUR: 'it returns false'. Refute it at one input. -/
def fnExactTagOkWrong : ChangeSpec := { name := "fnExactTagOk", fn := fun _ => fun
  | [d] => { results := [.lit (.bool false)], args := [d] }
  | _ => none }
def FnExactTagOkWrongFalsely : Prop := fnExactTagOkRow.holds Try.pinned (OpenSpec.ofChange fnExactTagOkWrong)

/-- 'laws.FnExactAlgorithmOk': WHATEVER THE INPUT: true; the input reads as it did. -/
def fnExactAlgorithmOkSpec : ChangeSpec := { name := "fnExactAlgorithmOk", fn := fun _ => fun
  | [d] => { results := [.lit (.bool true)], args := [d] }
  | _ => none }
def fnExactAlgorithmOkRow : OpenClaim := { program := "ytkklmpdinengnaa", sum := "ecaebbf6124bfc18da95cc7ada3085213d2e160b3146da5405fdf06076815813", func := "loop.example/g03201/laws.FnExactAlgorithmOk", spec := "fnExactAlgorithmOk", unfollowed := true, recurses := true, apart := false }
def FnExactAlgorithmOkSaid : Prop := fnExactAlgorithmOkRow.holds Try.pinned (OpenSpec.ofChange fnExactAlgorithmOkSpec)

/-- ITS FALSE NEIGHBOUR: 'it returns false'. Refute it at one input. -/
def fnExactAlgorithmOkWrong : ChangeSpec := { name := "fnExactAlgorithmOk", fn := fun _ => fun
  | [d] => { results := [.lit (.bool false)], args := [d] }
  | _ => none }
def FnExactAlgorithmOkWrongFalsely : Prop := fnExactAlgorithmOkRow.holds Try.pinned (OpenSpec.ofChange fnExactAlgorithmOkWrong)

/- THE SECOND FORM. 'bulk': how many values and letters a reading holds, each counted each time it is reached (what is shared counts as often as it is met; a slice's spare places count too). A statement '..UptoSaid' is the law's where the arguments, and the package variables that the reading takes, are together of bulk at most 1048576: NARROWER than '..Said'. Prove '..Said' where nothing that the law and all that it calls make is longer than what came in: it says more and counts as full. Else prove '..UptoSaid'. A law counts once. -/
mutual
def uptoBulk {H : Type} : DataW H → Nat
  | .lit (.string bytes) => bytes.length + 1
  | .lit _ => 1
  | .nil => 1
  | .ptr d => uptoBulk d + 1
  | .slice elems spare => uptoBulkAll elems + uptoBulkAll spare + 1
  | .agg parts => uptoBulkAll parts + 1
  | .iface _ d => uptoBulk d + 1
  | .map entries => uptoBulkEntries entries + 1
  | .held _ => 1
def uptoBulkAll {H : Type} : List (DataW H) → Nat
  | [] => 0
  | d :: r => uptoBulk d + uptoBulkAll r
def uptoBulkEntries {H : Type} : List (Lit × DataW H) → Nat
  | [] => 0
  | x :: r => uptoBulkEntry x + uptoBulkEntries r
def uptoBulkEntry {H : Type} : Lit × DataW H → Nat
  | (.string bytes, d) => bytes.length + uptoBulk d + 1
  | (_, d) => uptoBulk d + 1
 end
def uptoSmall : (H : Type) → List (DataW H) → Bool := fun _ ds => decide (uptoBulkAll ds ≤ 1048576)
def OpenSpec.upto (s : _root_.Go.ChangeSpec) : _root_.Go.OpenSpec := { _root_.Go.OpenSpec.ofChange s with cond := some uptoSmall }

/-- 'laws.FnExactWeightsOk', WHERE WHAT IT READS IS OF BULK AT MOST 1048576: true; the input reads as it did. -/
def fnExactWeightsOkUptoRow : OpenClaim := { program := "ytkklmpdinengnaa", sum := "ecaebbf6124bfc18da95cc7ada3085213d2e160b3146da5405fdf06076815813", func := "loop.example/g03201/laws.FnExactWeightsOk", spec := "fnExactWeightsOk", unfollowed := true, recurses := true, apart := false, narrowed := true }
def FnExactWeightsOkUptoSaid : Prop := fnExactWeightsOkUptoRow.holds Try.pinned (OpenSpec.upto fnExactWeightsOkSpec)

/-- 'laws.FnExactAddingOrders', WHERE WHAT IT READS IS OF BULK AT MOST 1048576: true; the input reads as it did. -/
def fnExactAddingOrdersUptoRow : OpenClaim := { program := "ytkklmpdinengnaa", sum := "ecaebbf6124bfc18da95cc7ada3085213d2e160b3146da5405fdf06076815813", func := "loop.example/g03201/laws.FnExactAddingOrders", spec := "fnExactAddingOrders", apart := false, narrowed := true }
def FnExactAddingOrdersUptoSaid : Prop := fnExactAddingOrdersUptoRow.holds Try.pinned (OpenSpec.upto fnExactAddingOrdersSpec)

/-- 'laws.FnExactSortingOrders', WHERE WHAT IT READS IS OF BULK AT MOST 1048576: true; the input reads as it did. -/
def fnExactSortingOrdersUptoRow : OpenClaim := { program := "ytkklmpdinengnaa", sum := "ecaebbf6124bfc18da95cc7ada3085213d2e160b3146da5405fdf06076815813", func := "loop.example/g03201/laws.FnExactSortingOrders", spec := "fnExactSortingOrders", apart := false, narrowed := true }
def FnExactSortingOrdersUptoSaid : Prop := fnExactSortingOrdersUptoRow.holds Try.pinned (OpenSpec.upto fnExactSortingOrdersSpec)

/-- 'laws.FnExactDoublingOrders', WHERE WHAT IT READS IS OF BULK AT MOST 1048576: true; the input reads as it did. -/
def fnExactDoublingOrdersUptoRow : OpenClaim := { program := "ytkklmpdinengnaa", sum := "ecaebbf6124bfc18da95cc7ada3085213d2e160b3146da5405fdf06076815813", func := "loop.example/g03201/laws.FnExactDoublingOrders", spec := "fnExactDoublingOrders", apart := false, narrowed := true }
def FnExactDoublingOrdersUptoSaid : Prop := fnExactDoublingOrdersUptoRow.holds Try.pinned (OpenSpec.upto fnExactDoublingOrdersSpec)

/-- 'laws.FnExactAddWeights', WHERE WHAT IT READS IS OF BULK AT MOST 1048576: true; the input reads as it did. -/
def fnExactAddWeightsUptoRow : OpenClaim := { program := "ytkklmpdinengnaa", sum := "ecaebbf6124bfc18da95cc7ada3085213d2e160b3146da5405fdf06076815813", func := "loop.example/g03201/laws.FnExactAddWeights", spec := "fnExactAddWeights", unfollowed := true, recurses := true, apart := false, narrowed := true }
def FnExactAddWeightsUptoSaid : Prop := fnExactAddWeightsUptoRow.holds Try.pinned (OpenSpec.upto fnExactAddWeightsSpec)

/-- 'laws.FnExactWeightOf', WHERE WHAT IT READS IS OF BULK AT MOST 1048576: true; the input reads as it did. -/
def fnExactWeightOfUptoRow : OpenClaim := { program := "ytkklmpdinengnaa", sum := "ecaebbf6124bfc18da95cc7ada3085213d2e160b3146da5405fdf06076815813", func := "loop.example/g03201/laws.FnExactWeightOf", spec := "fnExactWeightOf", unfollowed := true, recurses := true, apart := false, narrowed := true }
def FnExactWeightOfUptoSaid : Prop := fnExactWeightOfUptoRow.holds Try.pinned (OpenSpec.upto fnExactWeightOfSpec)

/-- 'laws.FnExactBracketSystem', WHERE WHAT IT READS IS OF BULK AT MOST 1048576: true; the input reads as it did. -/
def fnExactBracketSystemUptoRow : OpenClaim := { program := "ytkklmpdinengnaa", sum := "ecaebbf6124bfc18da95cc7ada3085213d2e160b3146da5405fdf06076815813", func := "loop.example/g03201/laws.FnExactBracketSystem", spec := "fnExactBracketSystem", apart := false, narrowed := true }
def FnExactBracketSystemUptoSaid : Prop := fnExactBracketSystemUptoRow.holds Try.pinned (OpenSpec.upto fnExactBracketSystemSpec)

/-- 'laws.FnExactProjectorSystem', WHERE WHAT IT READS IS OF BULK AT MOST 1048576: true; the input reads as it did. -/
def fnExactProjectorSystemUptoRow : OpenClaim := { program := "ytkklmpdinengnaa", sum := "ecaebbf6124bfc18da95cc7ada3085213d2e160b3146da5405fdf06076815813", func := "loop.example/g03201/laws.FnExactProjectorSystem", spec := "fnExactProjectorSystem", apart := false, narrowed := true }
def FnExactProjectorSystemUptoSaid : Prop := fnExactProjectorSystemUptoRow.holds Try.pinned (OpenSpec.upto fnExactProjectorSystemSpec)

/-- 'laws.FnExactTurnProof', WHERE WHAT IT READS IS OF BULK AT MOST 1048576: true; the input reads as it did. -/
def fnExactTurnProofUptoRow : OpenClaim := { program := "ytkklmpdinengnaa", sum := "ecaebbf6124bfc18da95cc7ada3085213d2e160b3146da5405fdf06076815813", func := "loop.example/g03201/laws.FnExactTurnProof", spec := "fnExactTurnProof", apart := false, narrowed := true }
def FnExactTurnProofUptoSaid : Prop := fnExactTurnProofUptoRow.holds Try.pinned (OpenSpec.upto fnExactTurnProofSpec)

/-- 'laws.FnExactSortingSystem', WHERE WHAT IT READS IS OF BULK AT MOST 1048576: true; the input reads as it did. -/
def fnExactSortingSystemUptoRow : OpenClaim := { program := "ytkklmpdinengnaa", sum := "ecaebbf6124bfc18da95cc7ada3085213d2e160b3146da5405fdf06076815813", func := "loop.example/g03201/laws.FnExactSortingSystem", spec := "fnExactSortingSystem", apart := false, narrowed := true }
def FnExactSortingSystemUptoSaid : Prop := fnExactSortingSystemUptoRow.holds Try.pinned (OpenSpec.upto fnExactSortingSystemSpec)

/-- 'laws.FnExactTagOk', WHERE WHAT IT READS IS OF BULK AT MOST 1048576: true; the input reads as it did. -/
def fnExactTagOkUptoRow : OpenClaim := { program := "ytkklmpdinengnaa", sum := "ecaebbf6124bfc18da95cc7ada3085213d2e160b3146da5405fdf06076815813", func := "loop.example/g03201/laws.FnExactTagOk", spec := "fnExactTagOk", unfollowed := true, recurses := true, apart := false, narrowed := true }
def FnExactTagOkUptoSaid : Prop := fnExactTagOkUptoRow.holds Try.pinned (OpenSpec.upto fnExactTagOkSpec)

/-- 'laws.FnExactAlgorithmOk', WHERE WHAT IT READS IS OF BULK AT MOST 1048576: true; the input reads as it did. -/
def fnExactAlgorithmOkUptoRow : OpenClaim := { program := "ytkklmpdinengnaa", sum := "ecaebbf6124bfc18da95cc7ada3085213d2e160b3146da5405fdf06076815813", func := "loop.example/g03201/laws.FnExactAlgorithmOk", spec := "fnExactAlgorithmOk", unfollowed := true, recurses := true, apart := false, narrowed := true }
def FnExactAlgorithmOkUptoSaid : Prop := fnExactAlgorithmOkUptoRow.holds Try.pinned (OpenSpec.upto fnExactAlgorithmOkSpec)

end Rows
end Go.Proofs.Ytkklmpdinengnaa
