/-
  No cell of these rows narrows 'for every input' (looked for: loops, veiled, ifaces, maps, wideKeys, modest, calm, conditions, laid).
  DERIVED. THE GIVEN ROWS OF THIS SEAT. 6 by the template 'for every input the law returns true; each argument reads behind the call as it read before'; 0 by the template 'total and deterministic' (their statements: YtidmbeeadbedaaaTotals.lean).
  GIVEN WITH THE SEED: the statements are not yours to turn. If you find one false, say at which input.
  Laid BY PROGRAM, IN A SANDBOX (cutbox-rows.mjs): the forced cells as the released guide's own fill.sh prints them over the translation 6b682ae64b90fd38… (all of the seat's roots in one cut). By AI agents, Wed Nov 11 2026. No macro, syntax, notation, axiom, sorry.
-/
import Derived.Test.YtidmbeeadbedaaaChecked
import GoSem.Claim
import GoSem.ClaimJoined
import GoSem.ClaimMapViews
import Derived.JoinedTies
import Derived.KernelRfl
namespace Go.Proofs.Ytidmbeeadbedaaa
/- THE CELL 'sum', in the pinned program and in every row, IS THE sha256 OF THE DUMP (.gsa) THAT YtidmbeeadbedaaaProg.lean LOADS. Nothing in Lean hashes anything: it is a label: what it is worth is what the hold of that sum in a sandbox is worth. -/
noncomputable def Try.pinned : Pinned := { name := "ytidmbeeadbedaaa", sum := "6b682ae64b90fd388269442236c3262c0f022087f854ae913e1ab38cdb50d6e3", checked := Try.checked }
namespace Rows
def none {H : Type} : Left H := { results := [], args := [] }

/-- 'laws.FnProofs': WHATEVER THE INPUT: true; the input reads as it did. -/
def fnProofsSpec : ChangeSpec := { name := "fnProofs", fn := fun _ => fun
  | [d] => { results := [.lit (.bool true)], args := [d] }
  | _ => none }
def fnProofsRow : OpenClaim := { program := "ytidmbeeadbedaaa", sum := "6b682ae64b90fd388269442236c3262c0f022087f854ae913e1ab38cdb50d6e3", func := "loop.example/g03201/laws.FnProofs", spec := "fnProofs", unfollowed := true, recurses := true, apart := false }
def FnProofsSaid : Prop := fnProofsRow.holds Try.pinned (OpenSpec.ofChange fnProofsSpec)

/-- ITS FALSE NEIGHBOUR: 'it returns false'. Refute it at one input. -/
def fnProofsWrong : ChangeSpec := { name := "fnProofs", fn := fun _ => fun
  | [d] => { results := [.lit (.bool false)], args := [d] }
  | _ => none }
def FnProofsWrongFalsely : Prop := fnProofsRow.holds Try.pinned (OpenSpec.ofChange fnProofsWrong)

/-- 'laws.FnSearch': WHATEVER THE INPUT: true; the input reads as it did. -/
def fnSearchSpec : ChangeSpec := { name := "fnSearch", fn := fun _ => fun
  | [d] => { results := [.lit (.bool true)], args := [d] }
  | _ => none }
def fnSearchRow : OpenClaim := { program := "ytidmbeeadbedaaa", sum := "6b682ae64b90fd388269442236c3262c0f022087f854ae913e1ab38cdb50d6e3", func := "loop.example/g03201/laws.FnSearch", spec := "fnSearch", unfollowed := true, recurses := true, apart := false }
def FnSearchSaid : Prop := fnSearchRow.holds Try.pinned (OpenSpec.ofChange fnSearchSpec)

/-- ITS FALSE NEIGHBOUR: 'it returns false'. Refute it at one input. -/
def fnSearchWrong : ChangeSpec := { name := "fnSearch", fn := fun _ => fun
  | [d] => { results := [.lit (.bool false)], args := [d] }
  | _ => none }
def FnSearchWrongFalsely : Prop := fnSearchRow.holds Try.pinned (OpenSpec.ofChange fnSearchWrong)

/-- 'laws.FnReduce': WHATEVER THE INPUT: true; the input reads as it did. -/
def fnReduceSpec : ChangeSpec := { name := "fnReduce", fn := fun _ => fun
  | [d] => { results := [.lit (.bool true)], args := [d] }
  | _ => none }
def fnReduceRow : OpenClaim := { program := "ytidmbeeadbedaaa", sum := "6b682ae64b90fd388269442236c3262c0f022087f854ae913e1ab38cdb50d6e3", func := "loop.example/g03201/laws.FnReduce", spec := "fnReduce", unfollowed := true, recurses := true, apart := false }
def FnReduceSaid : Prop := fnReduceRow.holds Try.pinned (OpenSpec.ofChange fnReduceSpec)

/-- ITS FALSE NEIGHBOUR: 'it returns false'. Refute it at one input. -/
def fnReduceWrong : ChangeSpec := { name := "fnReduce", fn := fun _ => fun
  | [d] => { results := [.lit (.bool false)], args := [d] }
  | _ => none }
def FnReduceWrongFalsely : Prop := fnReduceRow.holds Try.pinned (OpenSpec.ofChange fnReduceWrong)

/-- 'laws.FnRuns': WHATEVER THE INPUT: true; the input reads as it did. -/
def fnRunsSpec : ChangeSpec := { name := "fnRuns", fn := fun _ => fun
  | [d] => { results := [.lit (.bool true)], args := [d] }
  | _ => none }
def fnRunsRow : OpenClaim := { program := "ytidmbeeadbedaaa", sum := "6b682ae64b90fd388269442236c3262c0f022087f854ae913e1ab38cdb50d6e3", func := "loop.example/g03201/laws.FnRuns", spec := "fnRuns", unfollowed := true, recurses := true, apart := false }
def FnRunsSaid : Prop := fnRunsRow.holds Try.pinned (OpenSpec.ofChange fnRunsSpec)

/-- ITS FALSE NEIGHBOUR: 'it returns false'. Refute it at one input. -/
def fnRunsWrong : ChangeSpec := { name := "fnRuns", fn := fun _ => fun
  | [d] => { results := [.lit (.bool false)], args := [d] }
  | _ => none }
def FnRunsWrongFalsely : Prop := fnRunsRow.holds Try.pinned (OpenSpec.ofChange fnRunsWrong)

/-- 'laws.FnWeights': WHATEVER THE INPUT: true; the input reads as it did. -/
def fnWeightsSpec : ChangeSpec := { name := "fnWeights", fn := fun _ => fun
  | [d] => { results := [.lit (.bool true)], args := [d] }
  | _ => none }
def fnWeightsRow : OpenClaim := { program := "ytidmbeeadbedaaa", sum := "6b682ae64b90fd388269442236c3262c0f022087f854ae913e1ab38cdb50d6e3", func := "loop.example/g03201/laws.FnWeights", spec := "fnWeights", unfollowed := true, recurses := true, apart := false }
def FnWeightsSaid : Prop := fnWeightsRow.holds Try.pinned (OpenSpec.ofChange fnWeightsSpec)

/-- ITS FALSE NEIGHBOUR: 'it returns false'. Refute it at one input. -/
def fnWeightsWrong : ChangeSpec := { name := "fnWeights", fn := fun _ => fun
  | [d] => { results := [.lit (.bool false)], args := [d] }
  | _ => none }
def FnWeightsWrongFalsely : Prop := fnWeightsRow.holds Try.pinned (OpenSpec.ofChange fnWeightsWrong)

/-- 'laws.FnExactEqualWords': WHATEVER THE INPUT: true; the input reads as it did. -/
def fnExactEqualWordsSpec : ChangeSpec := { name := "fnExactEqualWords", fn := fun _ => fun
  | [d1, d2, d3] => { results := [.lit (.bool true)], args := [d1, d2, d3] }
  | _ => none }
def fnExactEqualWordsRow : OpenClaim := { program := "ytidmbeeadbedaaa", sum := "6b682ae64b90fd388269442236c3262c0f022087f854ae913e1ab38cdb50d6e3", func := "loop.example/g03201/laws.FnExactEqualWords", spec := "fnExactEqualWords", unfollowed := true, recurses := true, apart := false }
def FnExactEqualWordsSaid : Prop := fnExactEqualWordsRow.holds Try.pinned (OpenSpec.ofChange fnExactEqualWordsSpec)

/-- ITS FALSE NEIGHBOUR: 'it returns false'. Refute it at one input. -/
def fnExactEqualWordsWrong : ChangeSpec := { name := "fnExactEqualWords", fn := fun _ => fun
  | [d1, d2, d3] => { results := [.lit (.bool false)], args := [d1, d2, d3] }
  | _ => none }
def FnExactEqualWordsWrongFalsely : Prop := fnExactEqualWordsRow.holds Try.pinned (OpenSpec.ofChange fnExactEqualWordsWrong)

/- THE SECOND FORM. 'bulk': how many values and letters a reading holds, each counted each time it is reached (what is shared counts as often as it is met; a slice's spare places count too). A statement '..UptoSaid' is the law's where the arguments, and the package variables that the reading takes, are together of bulk at most 1048576: NARROWER than '..Said'. Prove '..Said' where nothing that the law and all that it calls make is longer than what came in: it says more and counts as full. Else prove '..UptoSaid'. A law counts once. -/
mutual
def uptoBulk {H : Type} : DataW H → Nat
  | .lit (.string bytes) => bytes.length + 1
  | .lit _ => 1
  | .nil => 1
  | .ptr d => uptoBulk d + 1
  | .slice elems spare => uptoBulkAll elems + uptoBulkAll spare + 1
  | .agg parts => uptoBulkAll parts + 1
  | .iface _ d => uptoBulk d + 1
  | .map entries => uptoBulkEntries entries + 1
  | .held _ => 1
def uptoBulkAll {H : Type} : List (DataW H) → Nat
  | [] => 0
  | d :: r => uptoBulk d + uptoBulkAll r
def uptoBulkEntries {H : Type} : List (Lit × DataW H) → Nat
  | [] => 0
  | x :: r => uptoBulkEntry x + uptoBulkEntries r
def uptoBulkEntry {H : Type} : Lit × DataW H → Nat
  | (.string bytes, d) => bytes.length + uptoBulk d + 1
  | (_, d) => uptoBulk d + 1
 end
def uptoSmall : (H : Type) → List (DataW H) → Bool := fun _ ds => decide (uptoBulkAll ds ≤ 1048576)
def OpenSpec.upto (s : _root_.Go.ChangeSpec) : _root_.Go.OpenSpec := { _root_.Go.OpenSpec.ofChange s with cond := some uptoSmall }

/-- 'laws.FnProofs', WHERE WHAT IT READS IS OF BULK AT MOST 1048576: true; the input reads as it did. -/
def fnProofsUptoRow : OpenClaim := { program := "ytidmbeeadbedaaa", sum := "6b682ae64b90fd388269442236c3262c0f022087f854ae913e1ab38cdb50d6e3", func := "loop.example/g03201/laws.FnProofs", spec := "fnProofs", unfollowed := true, recurses := true, apart := false, narrowed := true }
def FnProofsUptoSaid : Prop := fnProofsUptoRow.holds Try.pinned (OpenSpec.upto fnProofsSpec)

/-- 'laws.FnSearch', WHERE WHAT IT READS IS OF BULK AT MOST 1048576: true; the input reads as it did. -/
def fnSearchUptoRow : OpenClaim := { program := "ytidmbeeadbedaaa", sum := "6b682ae64b90fd388269442236c3262c0f022087f854ae913e1ab38cdb50d6e3", func := "loop.example/g03201/laws.FnSearch", spec := "fnSearch", unfollowed := true, recurses := true, apart := false, narrowed := true }
def FnSearchUptoSaid : Prop := fnSearchUptoRow.holds Try.pinned (OpenSpec.upto fnSearchSpec)

/-- 'laws.FnReduce', WHERE WHAT IT READS IS OF BULK AT MOST 1048576: true; the input reads as it did. -/
def fnReduceUptoRow : OpenClaim := { program := "ytidmbeeadbedaaa", sum := "6b682ae64b90fd388269442236c3262c0f022087f854ae913e1ab38cdb50d6e3", func := "loop.example/g03201/laws.FnReduce", spec := "fnReduce", unfollowed := true, recurses := true, apart := false, narrowed := true }
def FnReduceUptoSaid : Prop := fnReduceUptoRow.holds Try.pinned (OpenSpec.upto fnReduceSpec)

/-- 'laws.FnRuns', WHERE WHAT IT READS IS OF BULK AT MOST 1048576: true; the input reads as it did. -/
def fnRunsUptoRow : OpenClaim := { program := "ytidmbeeadbedaaa", sum := "6b682ae64b90fd388269442236c3262c0f022087f854ae913e1ab38cdb50d6e3", func := "loop.example/g03201/laws.FnRuns", spec := "fnRuns", unfollowed := true, recurses := true, apart := false, narrowed := true }
def FnRunsUptoSaid : Prop := fnRunsUptoRow.holds Try.pinned (OpenSpec.upto fnRunsSpec)

/-- 'laws.FnWeights', WHERE WHAT IT READS IS OF BULK AT MOST 1048576: true; the input reads as it did. -/
def fnWeightsUptoRow : OpenClaim := { program := "ytidmbeeadbedaaa", sum := "6b682ae64b90fd388269442236c3262c0f022087f854ae913e1ab38cdb50d6e3", func := "loop.example/g03201/laws.FnWeights", spec := "fnWeights", unfollowed := true, recurses := true, apart := false, narrowed := true }
def FnWeightsUptoSaid : Prop := fnWeightsUptoRow.holds Try.pinned (OpenSpec.upto fnWeightsSpec)

/-- 'laws.FnExactEqualWords', WHERE WHAT IT READS IS OF BULK AT MOST 1048576: true; the input reads as it did. -/
def fnExactEqualWordsUptoRow : OpenClaim := { program := "ytidmbeeadbedaaa", sum := "6b682ae64b90fd388269442236c3262c0f022087f854ae913e1ab38cdb50d6e3", func := "loop.example/g03201/laws.FnExactEqualWords", spec := "fnExactEqualWords", unfollowed := true, recurses := true, apart := false, narrowed := true }
def FnExactEqualWordsUptoSaid : Prop := fnExactEqualWordsUptoRow.holds Try.pinned (OpenSpec.upto fnExactEqualWordsSpec)

end Rows
end Go.Proofs.Ytidmbeeadbedaaa
