/-
  No cell of these rows narrows 'for every input' (looked for: loops, veiled, ifaces, maps, wideKeys, modest, calm, conditions, laid).
  DERIVED. THE GIVEN ROWS OF THIS SEAT. 12 by the template 'for every input the law returns true; each argument reads behind the call as it read before'; 0 by the template 'total and deterministic' (their statements: YtnlagiopmkjmlaaTotals.lean).
  GIVEN WITH THE SEED: the statements are not yours to turn. If you find one false, say at which input.
  Laid BY PROGRAM, IN A SANDBOX (cutbox-rows.mjs): the forced cells as the released guide's own fill.sh prints them over the translation 83ce6b1bc23ea09c… (all of the seat's roots in one cut). By AI agents, Wed Nov 11 2026. No macro, syntax, notation, axiom, sorry.
-/
import Derived.Test.YtnlagiopmkjmlaaChecked
import GoSem.Claim
import GoSem.ClaimJoined
import GoSem.ClaimMapViews
import Derived.JoinedTies
import Derived.KernelRfl
namespace Go.Proofs.Ytnlagiopmkjmlaa
/- THE CELL 'sum', in the pinned program and in every row, IS THE sha256 OF THE DUMP (.gsa) THAT YtnlagiopmkjmlaaProg.lean LOADS. Nothing in Lean hashes anything: it is a label: what it is worth is what the hold of that sum in a sandbox is worth. -/
noncomputable def Try.pinned : Pinned := { name := "ytnlagiopmkjmlaa", sum := "83ce6b1bc23ea09c6bd4ed5eb6922130be511361a37d54fe93089a535e31b347", checked := Try.checked }
namespace Rows
def none {H : Type} : Left H := { results := [], args := [] }

/-- 'laws.FnExactDistanceBetween': WHATEVER THE INPUT: true; the input reads as it did. -/
def fnExactDistanceBetweenSpec : ChangeSpec := { name := "fnExactDistanceBetween", fn := fun _ => fun
  | [d1, d2, d3, d4] => { results := [.lit (.bool true)], args := [d1, d2, d3, d4] }
  | _ => none }
def fnExactDistanceBetweenRow : OpenClaim := { program := "ytnlagiopmkjmlaa", sum := "83ce6b1bc23ea09c6bd4ed5eb6922130be511361a37d54fe93089a535e31b347", func := "loop.example/g03201/laws.FnExactDistanceBetween", spec := "fnExactDistanceBetween", unfollowed := true, recurses := true, apart := false }
def FnExactDistanceBetweenSaid : Prop := fnExactDistanceBetweenRow.holds Try.pinned (OpenSpec.ofChange fnExactDistanceBetweenSpec)

/-- ITS FALSE NEIGHBOUR: 'it returns false'. Refute it at one input. -/
def fnExactDistanceBetweenWrong : ChangeSpec := { name := "fnExactDistanceBetween", fn := fun _ => fun
  | [d1, d2, d3, d4] => { results := [.lit (.bool false)], args := [d1, d2, d3, d4] }
  | _ => none }
def FnExactDistanceBetweenWrongFalsely : Prop := fnExactDistanceBetweenRow.holds Try.pinned (OpenSpec.ofChange fnExactDistanceBetweenWrong)

/-- 'laws.FnExactShortestChain': WHATEVER THE INPUT: true; the input reads as it did. -/
def fnExactShortestChainSpec : ChangeSpec := { name := "fnExactShortestChain", fn := fun _ => fun
  | [d1, d2, d3, d4] => { results := [.lit (.bool true)], args := [d1, d2, d3, d4] }
  | _ => none }
def fnExactShortestChainRow : OpenClaim := { program := "ytnlagiopmkjmlaa", sum := "83ce6b1bc23ea09c6bd4ed5eb6922130be511361a37d54fe93089a535e31b347", func := "loop.example/g03201/laws.FnExactShortestChain", spec := "fnExactShortestChain", unfollowed := true, recurses := true, apart := false }
def FnExactShortestChainSaid : Prop := fnExactShortestChainRow.holds Try.pinned (OpenSpec.ofChange fnExactShortestChainSpec)

/-- ITS FALSE NEIGHBOUR: 'it returns false'. Refute it at one input. -/
def fnExactShortestChainWrong : ChangeSpec := { name := "fnExactShortestChain", fn := fun _ => fun
  | [d1, d2, d3, d4] => { results := [.lit (.bool false)], args := [d1, d2, d3, d4] }
  | _ => none }
def FnExactShortestChainWrongFalsely : Prop := fnExactShortestChainRow.holds Try.pinned (OpenSpec.ofChange fnExactShortestChainWrong)

/-- 'laws.FnExactFarthestWord': WHATEVER THE INPUT: true; the input reads as it did. -/
def fnExactFarthestWordSpec : ChangeSpec := { name := "fnExactFarthestWord", fn := fun _ => fun
  | [d1, d2, d3] => { results := [.lit (.bool true)], args := [d1, d2, d3] }
  | _ => none }
def fnExactFarthestWordRow : OpenClaim := { program := "ytnlagiopmkjmlaa", sum := "83ce6b1bc23ea09c6bd4ed5eb6922130be511361a37d54fe93089a535e31b347", func := "loop.example/g03201/laws.FnExactFarthestWord", spec := "fnExactFarthestWord", unfollowed := true, recurses := true, apart := false }
def FnExactFarthestWordSaid : Prop := fnExactFarthestWordRow.holds Try.pinned (OpenSpec.ofChange fnExactFarthestWordSpec)

/-- ITS FALSE NEIGHBOUR: 'it returns false'. Refute it at one input. -/
def fnExactFarthestWordWrong : ChangeSpec := { name := "fnExactFarthestWord", fn := fun _ => fun
  | [d1, d2, d3] => { results := [.lit (.bool false)], args := [d1, d2, d3] }
  | _ => none }
def FnExactFarthestWordWrongFalsely : Prop := fnExactFarthestWordRow.holds Try.pinned (OpenSpec.ofChange fnExactFarthestWordWrong)

/-- 'laws.FnExactCountClassesUpTo': WHATEVER THE INPUT: true; the input reads as it did. -/
def fnExactCountClassesUpToSpec : ChangeSpec := { name := "fnExactCountClassesUpTo", fn := fun _ => fun
  | [d1, d2] => { results := [.lit (.bool true)], args := [d1, d2] }
  | _ => none }
def fnExactCountClassesUpToRow : OpenClaim := { program := "ytnlagiopmkjmlaa", sum := "83ce6b1bc23ea09c6bd4ed5eb6922130be511361a37d54fe93089a535e31b347", func := "loop.example/g03201/laws.FnExactCountClassesUpTo", spec := "fnExactCountClassesUpTo", unfollowed := true, recurses := true, apart := false }
def FnExactCountClassesUpToSaid : Prop := fnExactCountClassesUpToRow.holds Try.pinned (OpenSpec.ofChange fnExactCountClassesUpToSpec)

/-- ITS FALSE NEIGHBOUR: 'it returns false'. Refute it at one input. -/
def fnExactCountClassesUpToWrong : ChangeSpec := { name := "fnExactCountClassesUpTo", fn := fun _ => fun
  | [d1, d2] => { results := [.lit (.bool false)], args := [d1, d2] }
  | _ => none }
def FnExactCountClassesUpToWrongFalsely : Prop := fnExactCountClassesUpToRow.holds Try.pinned (OpenSpec.ofChange fnExactCountClassesUpToWrong)

/-- 'laws.FnExactShortenProof': WHATEVER THE INPUT: true; the input reads as it did. -/
def fnExactShortenProofSpec : ChangeSpec := { name := "fnExactShortenProof", fn := fun _ => fun
  | [d1, d2, d3] => { results := [.lit (.bool true)], args := [d1, d2, d3] }
  | _ => none }
def fnExactShortenProofRow : OpenClaim := { program := "ytnlagiopmkjmlaa", sum := "83ce6b1bc23ea09c6bd4ed5eb6922130be511361a37d54fe93089a535e31b347", func := "loop.example/g03201/laws.FnExactShortenProof", spec := "fnExactShortenProof", unfollowed := true, recurses := true, apart := false }
def FnExactShortenProofSaid : Prop := fnExactShortenProofRow.holds Try.pinned (OpenSpec.ofChange fnExactShortenProofSpec)

/-- ITS FALSE NEIGHBOUR: 'it returns false'. Refute it at one input. -/
def fnExactShortenProofWrong : ChangeSpec := { name := "fnExactShortenProof", fn := fun _ => fun
  | [d1, d2, d3] => { results := [.lit (.bool false)], args := [d1, d2, d3] }
  | _ => none }
def FnExactShortenProofWrongFalsely : Prop := fnExactShortenProofRow.holds Try.pinned (OpenSpec.ofChange fnExactShortenProofWrong)

/-- 'laws.FnExactCountReached': WHATEVER THE INPUT: true; the input reads as it did. -/
def fnExactCountReachedSpec : ChangeSpec := { name := "fnExactCountReached", fn := fun _ => fun
  | [d1, d2] => { results := [.lit (.bool true)], args := [d1, d2] }
  | _ => none }
def fnExactCountReachedRow : OpenClaim := { program := "ytnlagiopmkjmlaa", sum := "83ce6b1bc23ea09c6bd4ed5eb6922130be511361a37d54fe93089a535e31b347", func := "loop.example/g03201/laws.FnExactCountReached", spec := "fnExactCountReached", unfollowed := true, recurses := true, apart := false }
def FnExactCountReachedSaid : Prop := fnExactCountReachedRow.holds Try.pinned (OpenSpec.ofChange fnExactCountReachedSpec)

/-- ITS FALSE NEIGHBOUR: 'it returns false'. Refute it at one input. -/
def fnExactCountReachedWrong : ChangeSpec := { name := "fnExactCountReached", fn := fun _ => fun
  | [d1, d2] => { results := [.lit (.bool false)], args := [d1, d2] }
  | _ => none }
def FnExactCountReachedWrongFalsely : Prop := fnExactCountReachedRow.holds Try.pinned (OpenSpec.ofChange fnExactCountReachedWrong)

/-- 'laws.FnExactCountPairs': WHATEVER THE INPUT: true; the input reads as it did. -/
def fnExactCountPairsSpec : ChangeSpec := { name := "fnExactCountPairs", fn := fun _ => fun
  | [d] => { results := [.lit (.bool true)], args := [d] }
  | _ => none }
def fnExactCountPairsRow : OpenClaim := { program := "ytnlagiopmkjmlaa", sum := "83ce6b1bc23ea09c6bd4ed5eb6922130be511361a37d54fe93089a535e31b347", func := "loop.example/g03201/laws.FnExactCountPairs", spec := "fnExactCountPairs", unfollowed := true, recurses := true, apart := false }
def FnExactCountPairsSaid : Prop := fnExactCountPairsRow.holds Try.pinned (OpenSpec.ofChange fnExactCountPairsSpec)

/-- ITS FALSE NEIGHBOUR: 'it returns false'. Refute it at one input. -/
def fnExactCountPairsWrong : ChangeSpec := { name := "fnExactCountPairs", fn := fun _ => fun
  | [d] => { results := [.lit (.bool false)], args := [d] }
  | _ => none }
def FnExactCountPairsWrongFalsely : Prop := fnExactCountPairsRow.holds Try.pinned (OpenSpec.ofChange fnExactCountPairsWrong)

/-- 'laws.FnExactIsComplete': WHATEVER THE INPUT: true; the input reads as it did. -/
def fnExactIsCompleteSpec : ChangeSpec := { name := "fnExactIsComplete", fn := fun _ => fun
  | [d] => { results := [.lit (.bool true)], args := [d] }
  | _ => none }
def fnExactIsCompleteRow : OpenClaim := { program := "ytnlagiopmkjmlaa", sum := "83ce6b1bc23ea09c6bd4ed5eb6922130be511361a37d54fe93089a535e31b347", func := "loop.example/g03201/laws.FnExactIsComplete", spec := "fnExactIsComplete", unfollowed := true, recurses := true, apart := false }
def FnExactIsCompleteSaid : Prop := fnExactIsCompleteRow.holds Try.pinned (OpenSpec.ofChange fnExactIsCompleteSpec)

/-- ITS FALSE NEIGHBOUR: 'it returns false'. Refute it at one input. -/
def fnExactIsCompleteWrong : ChangeSpec := { name := "fnExactIsComplete", fn := fun _ => fun
  | [d] => { results := [.lit (.bool false)], args := [d] }
  | _ => none }
def FnExactIsCompleteWrongFalsely : Prop := fnExactIsCompleteRow.holds Try.pinned (OpenSpec.ofChange fnExactIsCompleteWrong)

/-- 'laws.FnExactOpenPairs': WHATEVER THE INPUT: true; the input reads as it did. -/
def fnExactOpenPairsSpec : ChangeSpec := { name := "fnExactOpenPairs", fn := fun _ => fun
  | [d] => { results := [.lit (.bool true)], args := [d] }
  | _ => none }
def fnExactOpenPairsRow : OpenClaim := { program := "ytnlagiopmkjmlaa", sum := "83ce6b1bc23ea09c6bd4ed5eb6922130be511361a37d54fe93089a535e31b347", func := "loop.example/g03201/laws.FnExactOpenPairs", spec := "fnExactOpenPairs", unfollowed := true, recurses := true, apart := false }
def FnExactOpenPairsSaid : Prop := fnExactOpenPairsRow.holds Try.pinned (OpenSpec.ofChange fnExactOpenPairsSpec)

/-- ITS FALSE NEIGHBOUR: 'it returns false'. Refute it at one input. -/
def fnExactOpenPairsWrong : ChangeSpec := { name := "fnExactOpenPairs", fn := fun _ => fun
  | [d] => { results := [.lit (.bool false)], args := [d] }
  | _ => none }
def FnExactOpenPairsWrongFalsely : Prop := fnExactOpenPairsRow.holds Try.pinned (OpenSpec.ofChange fnExactOpenPairsWrong)

/-- 'laws.FnExactCountWeights': WHATEVER THE INPUT: true; the input reads as it did. -/
def fnExactCountWeightsSpec : ChangeSpec := { name := "fnExactCountWeights", fn := fun _ => fun
  | [d1, d2] => { results := [.lit (.bool true)], args := [d1, d2] }
  | _ => none }
def fnExactCountWeightsRow : OpenClaim := { program := "ytnlagiopmkjmlaa", sum := "83ce6b1bc23ea09c6bd4ed5eb6922130be511361a37d54fe93089a535e31b347", func := "loop.example/g03201/laws.FnExactCountWeights", spec := "fnExactCountWeights", unfollowed := true, recurses := true, apart := false }
def FnExactCountWeightsSaid : Prop := fnExactCountWeightsRow.holds Try.pinned (OpenSpec.ofChange fnExactCountWeightsSpec)

/-- ITS FALSE NEIGHBOUR: 'it returns false'. Refute it at one input. -/
def fnExactCountWeightsWrong : ChangeSpec := { name := "fnExactCountWeights", fn := fun _ => fun
  | [d1, d2] => { results := [.lit (.bool false)], args := [d1, d2] }
  | _ => none }
def FnExactCountWeightsWrongFalsely : Prop := fnExactCountWeightsRow.holds Try.pinned (OpenSpec.ofChange fnExactCountWeightsWrong)

/-- 'laws.FnExactLeastApart': WHATEVER THE INPUT: true; the input reads as it did. -/
def fnExactLeastApartSpec : ChangeSpec := { name := "fnExactLeastApart", fn := fun _ => fun
  | [d1, d2, d3] => { results := [.lit (.bool true)], args := [d1, d2, d3] }
  | _ => none }
def fnExactLeastApartRow : OpenClaim := { program := "ytnlagiopmkjmlaa", sum := "83ce6b1bc23ea09c6bd4ed5eb6922130be511361a37d54fe93089a535e31b347", func := "loop.example/g03201/laws.FnExactLeastApart", spec := "fnExactLeastApart", unfollowed := true, recurses := true, apart := false }
def FnExactLeastApartSaid : Prop := fnExactLeastApartRow.holds Try.pinned (OpenSpec.ofChange fnExactLeastApartSpec)

/-- ITS FALSE NEIGHBOUR: 'it returns false'. Refute it at one input. -/
def fnExactLeastApartWrong : ChangeSpec := { name := "fnExactLeastApart", fn := fun _ => fun
  | [d1, d2, d3] => { results := [.lit (.bool false)], args := [d1, d2, d3] }
  | _ => none }
def FnExactLeastApartWrongFalsely : Prop := fnExactLeastApartRow.holds Try.pinned (OpenSpec.ofChange fnExactLeastApartWrong)

/-- 'laws.FnExactWeightApart': WHATEVER THE INPUT: true; the input reads as it did. -/
def fnExactWeightApartSpec : ChangeSpec := { name := "fnExactWeightApart", fn := fun _ => fun
  | [d1, d2, d3, d4] => { results := [.lit (.bool true)], args := [d1, d2, d3, d4] }
  | _ => none }
def fnExactWeightApartRow : OpenClaim := { program := "ytnlagiopmkjmlaa", sum := "83ce6b1bc23ea09c6bd4ed5eb6922130be511361a37d54fe93089a535e31b347", func := "loop.example/g03201/laws.FnExactWeightApart", spec := "fnExactWeightApart", unfollowed := true, recurses := true, apart := false }
def FnExactWeightApartSaid : Prop := fnExactWeightApartRow.holds Try.pinned (OpenSpec.ofChange fnExactWeightApartSpec)

/-- ITS FALSE NEIGHBOUR: 'it returns false'. Refute it at one input. -/
def fnExactWeightApartWrong : ChangeSpec := { name := "fnExactWeightApart", fn := fun _ => fun
  | [d1, d2, d3, d4] => { results := [.lit (.bool false)], args := [d1, d2, d3, d4] }
  | _ => none }
def FnExactWeightApartWrongFalsely : Prop := fnExactWeightApartRow.holds Try.pinned (OpenSpec.ofChange fnExactWeightApartWrong)

/- THE SECOND FORM. 'bulk': how many values and letters a reading holds, each counted each time it is reached (what is shared counts as often as it is met; a slice's spare places count too). A statement '..UptoSaid' is the law's where the arguments, and the package variables that the reading takes, are together of bulk at most 1048576: NARROWER than '..Said'. Prove '..Said' where nothing that the law and all that it calls make is longer than what came in: it says more and counts as full. Else prove '..UptoSaid'. A law counts once. -/
mutual
def uptoBulk {H : Type} : DataW H → Nat
  | .lit (.string bytes) => bytes.length + 1
  | .lit _ => 1
  | .nil => 1
  | .ptr d => uptoBulk d + 1
  | .slice elems spare => uptoBulkAll elems + uptoBulkAll spare + 1
  | .agg parts => uptoBulkAll parts + 1
  | .iface _ d => uptoBulk d + 1
  | .map entries => uptoBulkEntries entries + 1
  | .held _ => 1
def uptoBulkAll {H : Type} : List (DataW H) → Nat
  | [] => 0
  | d :: r => uptoBulk d + uptoBulkAll r
def uptoBulkEntries {H : Type} : List (Lit × DataW H) → Nat
  | [] => 0
  | x :: r => uptoBulkEntry x + uptoBulkEntries r
def uptoBulkEntry {H : Type} : Lit × DataW H → Nat
  | (.string bytes, d) => bytes.length + uptoBulk d + 1
  | (_, d) => uptoBulk d + 1
 end
def uptoSmall : (H : Type) → List (DataW H) → Bool := fun _ ds => decide (uptoBulkAll ds ≤ 1048576)
def OpenSpec.upto (s : _root_.Go.ChangeSpec) : _root_.Go.OpenSpec := { _root_.Go.OpenSpec.ofChange s with cond := some uptoSmall }

/-- 'laws.FnExactDistanceBetween', WHERE WHAT IT READS IS OF BULK AT MOST 1048576: true; the input reads as it did. -/
def fnExactDistanceBetweenUptoRow : OpenClaim := { program := "ytnlagiopmkjmlaa", sum := "83ce6b1bc23ea09c6bd4ed5eb6922130be511361a37d54fe93089a535e31b347", func := "loop.example/g03201/laws.FnExactDistanceBetween", spec := "fnExactDistanceBetween", unfollowed := true, recurses := true, apart := false, narrowed := true }
def FnExactDistanceBetweenUptoSaid : Prop := fnExactDistanceBetweenUptoRow.holds Try.pinned (OpenSpec.upto fnExactDistanceBetweenSpec)

/-- 'laws.FnExactShortestChain', WHERE WHAT IT READS IS OF BULK AT MOST 1048576: true; the input reads as it did. -/
def fnExactShortestChainUptoRow : OpenClaim := { program := "ytnlagiopmkjmlaa", sum := "83ce6b1bc23ea09c6bd4ed5eb6922130be511361a37d54fe93089a535e31b347", func := "loop.example/g03201/laws.FnExactShortestChain", spec := "fnExactShortestChain", unfollowed := true, recurses := true, apart := false, narrowed := true }
def FnExactShortestChainUptoSaid : Prop := fnExactShortestChainUptoRow.holds Try.pinned (OpenSpec.upto fnExactShortestChainSpec)

/-- 'laws.FnExactFarthestWord', WHERE WHAT IT READS IS OF BULK AT MOST 1048576: true; the input reads as it did. -/
def fnExactFarthestWordUptoRow : OpenClaim := { program := "ytnlagiopmkjmlaa", sum := "83ce6b1bc23ea09c6bd4ed5eb6922130be511361a37d54fe93089a535e31b347", func := "loop.example/g03201/laws.FnExactFarthestWord", spec := "fnExactFarthestWord", unfollowed := true, recurses := true, apart := false, narrowed := true }
def FnExactFarthestWordUptoSaid : Prop := fnExactFarthestWordUptoRow.holds Try.pinned (OpenSpec.upto fnExactFarthestWordSpec)

/-- 'laws.FnExactCountClassesUpTo', WHERE WHAT IT READS IS OF BULK AT MOST 1048576: true; the input reads as it did. -/
def fnExactCountClassesUpToUptoRow : OpenClaim := { program := "ytnlagiopmkjmlaa", sum := "83ce6b1bc23ea09c6bd4ed5eb6922130be511361a37d54fe93089a535e31b347", func := "loop.example/g03201/laws.FnExactCountClassesUpTo", spec := "fnExactCountClassesUpTo", unfollowed := true, recurses := true, apart := false, narrowed := true }
def FnExactCountClassesUpToUptoSaid : Prop := fnExactCountClassesUpToUptoRow.holds Try.pinned (OpenSpec.upto fnExactCountClassesUpToSpec)

/-- 'laws.FnExactShortenProof', WHERE WHAT IT READS IS OF BULK AT MOST 1048576: true; the input reads as it did. -/
def fnExactShortenProofUptoRow : OpenClaim := { program := "ytnlagiopmkjmlaa", sum := "83ce6b1bc23ea09c6bd4ed5eb6922130be511361a37d54fe93089a535e31b347", func := "loop.example/g03201/laws.FnExactShortenProof", spec := "fnExactShortenProof", unfollowed := true, recurses := true, apart := false, narrowed := true }
def FnExactShortenProofUptoSaid : Prop := fnExactShortenProofUptoRow.holds Try.pinned (OpenSpec.upto fnExactShortenProofSpec)

/-- 'laws.FnExactCountReached', WHERE WHAT IT READS IS OF BULK AT MOST 1048576: true; the input reads as it did. -/
def fnExactCountReachedUptoRow : OpenClaim := { program := "ytnlagiopmkjmlaa", sum := "83ce6b1bc23ea09c6bd4ed5eb6922130be511361a37d54fe93089a535e31b347", func := "loop.example/g03201/laws.FnExactCountReached", spec := "fnExactCountReached", unfollowed := true, recurses := true, apart := false, narrowed := true }
def FnExactCountReachedUptoSaid : Prop := fnExactCountReachedUptoRow.holds Try.pinned (OpenSpec.upto fnExactCountReachedSpec)

/-- 'laws.FnExactCountPairs', WHERE WHAT IT READS IS OF BULK AT MOST 1048576: true; the input reads as it did. -/
def fnExactCountPairsUptoRow : OpenClaim := { program := "ytnlagiopmkjmlaa", sum := "83ce6b1bc23ea09c6bd4ed5eb6922130be511361a37d54fe93089a535e31b347", func := "loop.example/g03201/laws.FnExactCountPairs", spec := "fnExactCountPairs", unfollowed := true, recurses := true, apart := false, narrowed := true }
def FnExactCountPairsUptoSaid : Prop := fnExactCountPairsUptoRow.holds Try.pinned (OpenSpec.upto fnExactCountPairsSpec)

/-- 'laws.FnExactIsComplete', WHERE WHAT IT READS IS OF BULK AT MOST 1048576: true; the input reads as it did. -/
def fnExactIsCompleteUptoRow : OpenClaim := { program := "ytnlagiopmkjmlaa", sum := "83ce6b1bc23ea09c6bd4ed5eb6922130be511361a37d54fe93089a535e31b347", func := "loop.example/g03201/laws.FnExactIsComplete", spec := "fnExactIsComplete", unfollowed := true, recurses := true, apart := false, narrowed := true }
def FnExactIsCompleteUptoSaid : Prop := fnExactIsCompleteUptoRow.holds Try.pinned (OpenSpec.upto fnExactIsCompleteSpec)

/-- 'laws.FnExactOpenPairs', WHERE WHAT IT READS IS OF BULK AT MOST 1048576: true; the input reads as it did. -/
def fnExactOpenPairsUptoRow : OpenClaim := { program := "ytnlagiopmkjmlaa", sum := "83ce6b1bc23ea09c6bd4ed5eb6922130be511361a37d54fe93089a535e31b347", func := "loop.example/g03201/laws.FnExactOpenPairs", spec := "fnExactOpenPairs", unfollowed := true, recurses := true, apart := false, narrowed := true }
def FnExactOpenPairsUptoSaid : Prop := fnExactOpenPairsUptoRow.holds Try.pinned (OpenSpec.upto fnExactOpenPairsSpec)

/-- 'laws.FnExactCountWeights', WHERE WHAT IT READS IS OF BULK AT MOST 1048576: true; the input reads as it did. -/
def fnExactCountWeightsUptoRow : OpenClaim := { program := "ytnlagiopmkjmlaa", sum := "83ce6b1bc23ea09c6bd4ed5eb6922130be511361a37d54fe93089a535e31b347", func := "loop.example/g03201/laws.FnExactCountWeights", spec := "fnExactCountWeights", unfollowed := true, recurses := true, apart := false, narrowed := true }
def FnExactCountWeightsUptoSaid : Prop := fnExactCountWeightsUptoRow.holds Try.pinned (OpenSpec.upto fnExactCountWeightsSpec)

/-- 'laws.FnExactLeastApart', WHERE WHAT IT READS IS OF BULK AT MOST 1048576: true; the input reads as it did. -/
def fnExactLeastApartUptoRow : OpenClaim := { program := "ytnlagiopmkjmlaa", sum := "83ce6b1bc23ea09c6bd4ed5eb6922130be511361a37d54fe93089a535e31b347", func := "loop.example/g03201/laws.FnExactLeastApart", spec := "fnExactLeastApart", unfollowed := true, recurses := true, apart := false, narrowed := true }
def FnExactLeastApartUptoSaid : Prop := fnExactLeastApartUptoRow.holds Try.pinned (OpenSpec.upto fnExactLeastApartSpec)

/-- 'laws.FnExactWeightApart', WHERE WHAT IT READS IS OF BULK AT MOST 1048576: true; the input reads as it did. -/
def fnExactWeightApartUptoRow : OpenClaim := { program := "ytnlagiopmkjmlaa", sum := "83ce6b1bc23ea09c6bd4ed5eb6922130be511361a37d54fe93089a535e31b347", func := "loop.example/g03201/laws.FnExactWeightApart", spec := "fnExactWeightApart", unfollowed := true, recurses := true, apart := false, narrowed := true }
def FnExactWeightApartUptoSaid : Prop := fnExactWeightApartUptoRow.holds Try.pinned (OpenSpec.upto fnExactWeightApartSpec)

end Rows
end Go.Proofs.Ytnlagiopmkjmlaa
