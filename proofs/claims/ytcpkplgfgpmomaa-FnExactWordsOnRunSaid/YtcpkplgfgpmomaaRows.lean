/-
  No cell of these rows narrows 'for every input' (looked for: loops, veiled, ifaces, maps, wideKeys, modest, calm, conditions, laid).
  DERIVED. THE GIVEN ROWS OF THIS SEAT. 12 by the template 'for every input the law returns true; each argument reads behind the call as it read before'; 0 by the template 'total and deterministic' (their statements: YtcpkplgfgpmomaaTotals.lean).
  GIVEN WITH THE SEED: the statements are not yours to turn. If you find one false, say at which input.
  Laid BY PROGRAM, IN A SANDBOX (cutbox-rows.mjs): the forced cells as the released guide's own fill.sh prints them over the translation 13a390768213f1c0… (all of the seat's roots in one cut). By AI agents, Wed Nov 11 2026. No macro, syntax, notation, axiom, sorry.
-/
import Derived.Test.YtcpkplgfgpmomaaChecked
import GoSem.Claim
import GoSem.ClaimJoined
import GoSem.ClaimMapViews
import Derived.JoinedTies
import Derived.KernelRfl
namespace Go.Proofs.Ytcpkplgfgpmomaa
/- THE CELL 'sum', in the pinned program and in every row, IS THE sha256 OF THE DUMP (.gsa) THAT YtcpkplgfgpmomaaProg.lean LOADS. Nothing in Lean hashes anything: it is a label: what it is worth is what the hold of that sum in a sandbox is worth. -/
noncomputable def Try.pinned : Pinned := { name := "ytcpkplgfgpmomaa", sum := "13a390768213f1c024d27fd1a310fe3850e099758a6472f933ed7050dca2a109", checked := Try.checked }
namespace Rows
def none {H : Type} : Left H := { results := [], args := [] }

/-- 'laws.FnExactIsProof': WHATEVER THE INPUT: true; the input reads as it did. -/
def fnExactIsProofSpec : ChangeSpec := { name := "fnExactIsProof", fn := fun _ => fun
  | [d1, d2, d3, d4] => { results := [.lit (.bool true)], args := [d1, d2, d3, d4] }
  | _ => none }
def fnExactIsProofRow : OpenClaim := { program := "ytcpkplgfgpmomaa", sum := "13a390768213f1c024d27fd1a310fe3850e099758a6472f933ed7050dca2a109", func := "loop.example/g03201/laws.FnExactIsProof", spec := "fnExactIsProof", unfollowed := true, recurses := true, apart := false }
def FnExactIsProofSaid : Prop := fnExactIsProofRow.holds Try.pinned (OpenSpec.ofChange fnExactIsProofSpec)

/-- ITS FALSE NEIGHBOUR: 'it returns false'. Refute it at one input. -/
def fnExactIsProofWrong : ChangeSpec := { name := "fnExactIsProof", fn := fun _ => fun
  | [d1, d2, d3, d4] => { results := [.lit (.bool false)], args := [d1, d2, d3, d4] }
  | _ => none }
def FnExactIsProofWrongFalsely : Prop := fnExactIsProofRow.holds Try.pinned (OpenSpec.ofChange fnExactIsProofWrong)

/-- 'laws.FnExactFarForm': WHATEVER THE INPUT: true; the input reads as it did. -/
def fnExactFarFormSpec : ChangeSpec := { name := "fnExactFarForm", fn := fun _ => fun
  | [d1, d2] => { results := [.lit (.bool true)], args := [d1, d2] }
  | _ => none }
def fnExactFarFormRow : OpenClaim := { program := "ytcpkplgfgpmomaa", sum := "13a390768213f1c024d27fd1a310fe3850e099758a6472f933ed7050dca2a109", func := "loop.example/g03201/laws.FnExactFarForm", spec := "fnExactFarForm", unfollowed := true, recurses := true, apart := false }
def FnExactFarFormSaid : Prop := fnExactFarFormRow.holds Try.pinned (OpenSpec.ofChange fnExactFarFormSpec)

/-- ITS FALSE NEIGHBOUR: 'it returns false'. Refute it at one input. -/
def fnExactFarFormWrong : ChangeSpec := { name := "fnExactFarForm", fn := fun _ => fun
  | [d1, d2] => { results := [.lit (.bool false)], args := [d1, d2] }
  | _ => none }
def FnExactFarFormWrongFalsely : Prop := fnExactFarFormRow.holds Try.pinned (OpenSpec.ofChange fnExactFarFormWrong)

/-- 'laws.FnExactRunFar': WHATEVER THE INPUT: true; the input reads as it did. -/
def fnExactRunFarSpec : ChangeSpec := { name := "fnExactRunFar", fn := fun _ => fun
  | [d1, d2, d3] => { results := [.lit (.bool true)], args := [d1, d2, d3] }
  | _ => none }
def fnExactRunFarRow : OpenClaim := { program := "ytcpkplgfgpmomaa", sum := "13a390768213f1c024d27fd1a310fe3850e099758a6472f933ed7050dca2a109", func := "loop.example/g03201/laws.FnExactRunFar", spec := "fnExactRunFar", unfollowed := true, recurses := true, apart := false }
def FnExactRunFarSaid : Prop := fnExactRunFarRow.holds Try.pinned (OpenSpec.ofChange fnExactRunFarSpec)

/-- ITS FALSE NEIGHBOUR: 'it returns false'. Refute it at one input. -/
def fnExactRunFarWrong : ChangeSpec := { name := "fnExactRunFar", fn := fun _ => fun
  | [d1, d2, d3] => { results := [.lit (.bool false)], args := [d1, d2, d3] }
  | _ => none }
def FnExactRunFarWrongFalsely : Prop := fnExactRunFarRow.holds Try.pinned (OpenSpec.ofChange fnExactRunFarWrong)

/-- 'laws.FnExactRunFirst': WHATEVER THE INPUT: true; the input reads as it did. -/
def fnExactRunFirstSpec : ChangeSpec := { name := "fnExactRunFirst", fn := fun _ => fun
  | [d1, d2, d3] => { results := [.lit (.bool true)], args := [d1, d2, d3] }
  | _ => none }
def fnExactRunFirstRow : OpenClaim := { program := "ytcpkplgfgpmomaa", sum := "13a390768213f1c024d27fd1a310fe3850e099758a6472f933ed7050dca2a109", func := "loop.example/g03201/laws.FnExactRunFirst", spec := "fnExactRunFirst", unfollowed := true, recurses := true, apart := false }
def FnExactRunFirstSaid : Prop := fnExactRunFirstRow.holds Try.pinned (OpenSpec.ofChange fnExactRunFirstSpec)

/-- ITS FALSE NEIGHBOUR: 'it returns false'. Refute it at one input. -/
def fnExactRunFirstWrong : ChangeSpec := { name := "fnExactRunFirst", fn := fun _ => fun
  | [d1, d2, d3] => { results := [.lit (.bool false)], args := [d1, d2, d3] }
  | _ => none }
def FnExactRunFirstWrongFalsely : Prop := fnExactRunFirstRow.holds Try.pinned (OpenSpec.ofChange fnExactRunFirstWrong)

/-- 'laws.FnExactNormalForm': WHATEVER THE INPUT: true; the input reads as it did. -/
def fnExactNormalFormSpec : ChangeSpec := { name := "fnExactNormalForm", fn := fun _ => fun
  | [d1, d2] => { results := [.lit (.bool true)], args := [d1, d2] }
  | _ => none }
def fnExactNormalFormRow : OpenClaim := { program := "ytcpkplgfgpmomaa", sum := "13a390768213f1c024d27fd1a310fe3850e099758a6472f933ed7050dca2a109", func := "loop.example/g03201/laws.FnExactNormalForm", spec := "fnExactNormalForm", unfollowed := true, recurses := true, apart := false }
def FnExactNormalFormSaid : Prop := fnExactNormalFormRow.holds Try.pinned (OpenSpec.ofChange fnExactNormalFormSpec)

/-- ITS FALSE NEIGHBOUR: 'it returns false'. Refute it at one input. -/
def fnExactNormalFormWrong : ChangeSpec := { name := "fnExactNormalForm", fn := fun _ => fun
  | [d1, d2] => { results := [.lit (.bool false)], args := [d1, d2] }
  | _ => none }
def FnExactNormalFormWrongFalsely : Prop := fnExactNormalFormRow.holds Try.pinned (OpenSpec.ofChange fnExactNormalFormWrong)

/-- 'laws.FnExactChainOf': WHATEVER THE INPUT: true; the input reads as it did. -/
def fnExactChainOfSpec : ChangeSpec := { name := "fnExactChainOf", fn := fun _ => fun
  | [d1, d2, d3] => { results := [.lit (.bool true)], args := [d1, d2, d3] }
  | _ => none }
def fnExactChainOfRow : OpenClaim := { program := "ytcpkplgfgpmomaa", sum := "13a390768213f1c024d27fd1a310fe3850e099758a6472f933ed7050dca2a109", func := "loop.example/g03201/laws.FnExactChainOf", spec := "fnExactChainOf", unfollowed := true, recurses := true, apart := false }
def FnExactChainOfSaid : Prop := fnExactChainOfRow.holds Try.pinned (OpenSpec.ofChange fnExactChainOfSpec)

/-- ITS FALSE NEIGHBOUR: 'it returns false'. Refute it at one input. -/
def fnExactChainOfWrong : ChangeSpec := { name := "fnExactChainOf", fn := fun _ => fun
  | [d1, d2, d3] => { results := [.lit (.bool false)], args := [d1, d2, d3] }
  | _ => none }
def FnExactChainOfWrongFalsely : Prop := fnExactChainOfRow.holds Try.pinned (OpenSpec.ofChange fnExactChainOfWrong)

/-- 'laws.FnExactPeakOf': WHATEVER THE INPUT: true; the input reads as it did. -/
def fnExactPeakOfSpec : ChangeSpec := { name := "fnExactPeakOf", fn := fun _ => fun
  | [d1, d2, d3] => { results := [.lit (.bool true)], args := [d1, d2, d3] }
  | _ => none }
def fnExactPeakOfRow : OpenClaim := { program := "ytcpkplgfgpmomaa", sum := "13a390768213f1c024d27fd1a310fe3850e099758a6472f933ed7050dca2a109", func := "loop.example/g03201/laws.FnExactPeakOf", spec := "fnExactPeakOf", unfollowed := true, recurses := true, apart := false }
def FnExactPeakOfSaid : Prop := fnExactPeakOfRow.holds Try.pinned (OpenSpec.ofChange fnExactPeakOfSpec)

/-- ITS FALSE NEIGHBOUR: 'it returns false'. Refute it at one input. -/
def fnExactPeakOfWrong : ChangeSpec := { name := "fnExactPeakOf", fn := fun _ => fun
  | [d1, d2, d3] => { results := [.lit (.bool false)], args := [d1, d2, d3] }
  | _ => none }
def FnExactPeakOfWrongFalsely : Prop := fnExactPeakOfRow.holds Try.pinned (OpenSpec.ofChange fnExactPeakOfWrong)

/-- 'laws.FnExactLinksOf': WHATEVER THE INPUT: true; the input reads as it did. -/
def fnExactLinksOfSpec : ChangeSpec := { name := "fnExactLinksOf", fn := fun _ => fun
  | [d1, d2, d3] => { results := [.lit (.bool true)], args := [d1, d2, d3] }
  | _ => none }
def fnExactLinksOfRow : OpenClaim := { program := "ytcpkplgfgpmomaa", sum := "13a390768213f1c024d27fd1a310fe3850e099758a6472f933ed7050dca2a109", func := "loop.example/g03201/laws.FnExactLinksOf", spec := "fnExactLinksOf", unfollowed := true, recurses := true, apart := false }
def FnExactLinksOfSaid : Prop := fnExactLinksOfRow.holds Try.pinned (OpenSpec.ofChange fnExactLinksOfSpec)

/-- ITS FALSE NEIGHBOUR: 'it returns false'. Refute it at one input. -/
def fnExactLinksOfWrong : ChangeSpec := { name := "fnExactLinksOf", fn := fun _ => fun
  | [d1, d2, d3] => { results := [.lit (.bool false)], args := [d1, d2, d3] }
  | _ => none }
def FnExactLinksOfWrongFalsely : Prop := fnExactLinksOfRow.holds Try.pinned (OpenSpec.ofChange fnExactLinksOfWrong)

/-- 'laws.FnExactTraceOf': WHATEVER THE INPUT: true; the input reads as it did. -/
def fnExactTraceOfSpec : ChangeSpec := { name := "fnExactTraceOf", fn := fun _ => fun
  | [d1, d2] => { results := [.lit (.bool true)], args := [d1, d2] }
  | _ => none }
def fnExactTraceOfRow : OpenClaim := { program := "ytcpkplgfgpmomaa", sum := "13a390768213f1c024d27fd1a310fe3850e099758a6472f933ed7050dca2a109", func := "loop.example/g03201/laws.FnExactTraceOf", spec := "fnExactTraceOf", unfollowed := true, recurses := true, apart := false }
def FnExactTraceOfSaid : Prop := fnExactTraceOfRow.holds Try.pinned (OpenSpec.ofChange fnExactTraceOfSpec)

/-- ITS FALSE NEIGHBOUR: 'it returns false'. Refute it at one input. -/
def fnExactTraceOfWrong : ChangeSpec := { name := "fnExactTraceOf", fn := fun _ => fun
  | [d1, d2] => { results := [.lit (.bool false)], args := [d1, d2] }
  | _ => none }
def FnExactTraceOfWrongFalsely : Prop := fnExactTraceOfRow.holds Try.pinned (OpenSpec.ofChange fnExactTraceOfWrong)

/-- 'laws.FnExactIsJoined': WHATEVER THE INPUT: true; the input reads as it did. -/
def fnExactIsJoinedSpec : ChangeSpec := { name := "fnExactIsJoined", fn := fun _ => fun
  | [d1, d2] => { results := [.lit (.bool true)], args := [d1, d2] }
  | _ => none }
def fnExactIsJoinedRow : OpenClaim := { program := "ytcpkplgfgpmomaa", sum := "13a390768213f1c024d27fd1a310fe3850e099758a6472f933ed7050dca2a109", func := "loop.example/g03201/laws.FnExactIsJoined", spec := "fnExactIsJoined", unfollowed := true, recurses := true, apart := false }
def FnExactIsJoinedSaid : Prop := fnExactIsJoinedRow.holds Try.pinned (OpenSpec.ofChange fnExactIsJoinedSpec)

/-- ITS FALSE NEIGHBOUR: 'it returns false'. Refute it at one input. -/
def fnExactIsJoinedWrong : ChangeSpec := { name := "fnExactIsJoined", fn := fun _ => fun
  | [d1, d2] => { results := [.lit (.bool false)], args := [d1, d2] }
  | _ => none }
def FnExactIsJoinedWrongFalsely : Prop := fnExactIsJoinedRow.holds Try.pinned (OpenSpec.ofChange fnExactIsJoinedWrong)

/-- 'laws.FnExactProofOf': WHATEVER THE INPUT: true; the input reads as it did. -/
def fnExactProofOfSpec : ChangeSpec := { name := "fnExactProofOf", fn := fun _ => fun
  | [d1, d2, d3] => { results := [.lit (.bool true)], args := [d1, d2, d3] }
  | _ => none }
def fnExactProofOfRow : OpenClaim := { program := "ytcpkplgfgpmomaa", sum := "13a390768213f1c024d27fd1a310fe3850e099758a6472f933ed7050dca2a109", func := "loop.example/g03201/laws.FnExactProofOf", spec := "fnExactProofOf", unfollowed := true, recurses := true, apart := false }
def FnExactProofOfSaid : Prop := fnExactProofOfRow.holds Try.pinned (OpenSpec.ofChange fnExactProofOfSpec)

/-- ITS FALSE NEIGHBOUR: 'it returns false'. Refute it at one input. -/
def fnExactProofOfWrong : ChangeSpec := { name := "fnExactProofOf", fn := fun _ => fun
  | [d1, d2, d3] => { results := [.lit (.bool false)], args := [d1, d2, d3] }
  | _ => none }
def FnExactProofOfWrongFalsely : Prop := fnExactProofOfRow.holds Try.pinned (OpenSpec.ofChange fnExactProofOfWrong)

/-- 'laws.FnExactWordsOnRun': WHATEVER THE INPUT: true; the input reads as it did. -/
def fnExactWordsOnRunSpec : ChangeSpec := { name := "fnExactWordsOnRun", fn := fun _ => fun
  | [d1, d2, d3] => { results := [.lit (.bool true)], args := [d1, d2, d3] }
  | _ => none }
def fnExactWordsOnRunRow : OpenClaim := { program := "ytcpkplgfgpmomaa", sum := "13a390768213f1c024d27fd1a310fe3850e099758a6472f933ed7050dca2a109", func := "loop.example/g03201/laws.FnExactWordsOnRun", spec := "fnExactWordsOnRun", unfollowed := true, recurses := true, apart := false }
def FnExactWordsOnRunSaid : Prop := fnExactWordsOnRunRow.holds Try.pinned (OpenSpec.ofChange fnExactWordsOnRunSpec)

/-- ITS FALSE NEIGHBOUR: 'it returns false'. Refute it at one input. -/
def fnExactWordsOnRunWrong : ChangeSpec := { name := "fnExactWordsOnRun", fn := fun _ => fun
  | [d1, d2, d3] => { results := [.lit (.bool false)], args := [d1, d2, d3] }
  | _ => none }
def FnExactWordsOnRunWrongFalsely : Prop := fnExactWordsOnRunRow.holds Try.pinned (OpenSpec.ofChange fnExactWordsOnRunWrong)

/- THE SECOND FORM. 'bulk': how many values and letters a reading holds, each counted each time it is reached (what is shared counts as often as it is met; a slice's spare places count too). A statement '..UptoSaid' is the law's where the arguments, and the package variables that the reading takes, are together of bulk at most 1048576: NARROWER than '..Said'. Prove '..Said' where nothing that the law and all that it calls make is longer than what came in: it says more and counts as full. Else prove '..UptoSaid'. A law counts once. -/
mutual
def uptoBulk {H : Type} : DataW H → Nat
  | .lit (.string bytes) => bytes.length + 1
  | .lit _ => 1
  | .nil => 1
  | .ptr d => uptoBulk d + 1
  | .slice elems spare => uptoBulkAll elems + uptoBulkAll spare + 1
  | .agg parts => uptoBulkAll parts + 1
  | .iface _ d => uptoBulk d + 1
  | .map entries => uptoBulkEntries entries + 1
  | .held _ => 1
def uptoBulkAll {H : Type} : List (DataW H) → Nat
  | [] => 0
  | d :: r => uptoBulk d + uptoBulkAll r
def uptoBulkEntries {H : Type} : List (Lit × DataW H) → Nat
  | [] => 0
  | x :: r => uptoBulkEntry x + uptoBulkEntries r
def uptoBulkEntry {H : Type} : Lit × DataW H → Nat
  | (.string bytes, d) => bytes.length + uptoBulk d + 1
  | (_, d) => uptoBulk d + 1
 end
def uptoSmall : (H : Type) → List (DataW H) → Bool := fun _ ds => decide (uptoBulkAll ds ≤ 1048576)
def OpenSpec.upto (s : _root_.Go.ChangeSpec) : _root_.Go.OpenSpec := { _root_.Go.OpenSpec.ofChange s with cond := some uptoSmall }

/-- 'laws.FnExactIsProof', WHERE WHAT IT READS IS OF BULK AT MOST 1048576: true; the input reads as it did. -/
def fnExactIsProofUptoRow : OpenClaim := { program := "ytcpkplgfgpmomaa", sum := "13a390768213f1c024d27fd1a310fe3850e099758a6472f933ed7050dca2a109", func := "loop.example/g03201/laws.FnExactIsProof", spec := "fnExactIsProof", unfollowed := true, recurses := true, apart := false, narrowed := true }
def FnExactIsProofUptoSaid : Prop := fnExactIsProofUptoRow.holds Try.pinned (OpenSpec.upto fnExactIsProofSpec)

/-- 'laws.FnExactFarForm', WHERE WHAT IT READS IS OF BULK AT MOST 1048576: true; the input reads as it did. -/
def fnExactFarFormUptoRow : OpenClaim := { program := "ytcpkplgfgpmomaa", sum := "13a390768213f1c024d27fd1a310fe3850e099758a6472f933ed7050dca2a109", func := "loop.example/g03201/laws.FnExactFarForm", spec := "fnExactFarForm", unfollowed := true, recurses := true, apart := false, narrowed := true }
def FnExactFarFormUptoSaid : Prop := fnExactFarFormUptoRow.holds Try.pinned (OpenSpec.upto fnExactFarFormSpec)

/-- 'laws.FnExactRunFar', WHERE WHAT IT READS IS OF BULK AT MOST 1048576: true; the input reads as it did. -/
def fnExactRunFarUptoRow : OpenClaim := { program := "ytcpkplgfgpmomaa", sum := "13a390768213f1c024d27fd1a310fe3850e099758a6472f933ed7050dca2a109", func := "loop.example/g03201/laws.FnExactRunFar", spec := "fnExactRunFar", unfollowed := true, recurses := true, apart := false, narrowed := true }
def FnExactRunFarUptoSaid : Prop := fnExactRunFarUptoRow.holds Try.pinned (OpenSpec.upto fnExactRunFarSpec)

/-- 'laws.FnExactRunFirst', WHERE WHAT IT READS IS OF BULK AT MOST 1048576: true; the input reads as it did. -/
def fnExactRunFirstUptoRow : OpenClaim := { program := "ytcpkplgfgpmomaa", sum := "13a390768213f1c024d27fd1a310fe3850e099758a6472f933ed7050dca2a109", func := "loop.example/g03201/laws.FnExactRunFirst", spec := "fnExactRunFirst", unfollowed := true, recurses := true, apart := false, narrowed := true }
def FnExactRunFirstUptoSaid : Prop := fnExactRunFirstUptoRow.holds Try.pinned (OpenSpec.upto fnExactRunFirstSpec)

/-- 'laws.FnExactNormalForm', WHERE WHAT IT READS IS OF BULK AT MOST 1048576: true; the input reads as it did. -/
def fnExactNormalFormUptoRow : OpenClaim := { program := "ytcpkplgfgpmomaa", sum := "13a390768213f1c024d27fd1a310fe3850e099758a6472f933ed7050dca2a109", func := "loop.example/g03201/laws.FnExactNormalForm", spec := "fnExactNormalForm", unfollowed := true, recurses := true, apart := false, narrowed := true }
def FnExactNormalFormUptoSaid : Prop := fnExactNormalFormUptoRow.holds Try.pinned (OpenSpec.upto fnExactNormalFormSpec)

/-- 'laws.FnExactChainOf', WHERE WHAT IT READS IS OF BULK AT MOST 1048576: true; the input reads as it did. -/
def fnExactChainOfUptoRow : OpenClaim := { program := "ytcpkplgfgpmomaa", sum := "13a390768213f1c024d27fd1a310fe3850e099758a6472f933ed7050dca2a109", func := "loop.example/g03201/laws.FnExactChainOf", spec := "fnExactChainOf", unfollowed := true, recurses := true, apart := false, narrowed := true }
def FnExactChainOfUptoSaid : Prop := fnExactChainOfUptoRow.holds Try.pinned (OpenSpec.upto fnExactChainOfSpec)

/-- 'laws.FnExactPeakOf', WHERE WHAT IT READS IS OF BULK AT MOST 1048576: true; the input reads as it did. -/
def fnExactPeakOfUptoRow : OpenClaim := { program := "ytcpkplgfgpmomaa", sum := "13a390768213f1c024d27fd1a310fe3850e099758a6472f933ed7050dca2a109", func := "loop.example/g03201/laws.FnExactPeakOf", spec := "fnExactPeakOf", unfollowed := true, recurses := true, apart := false, narrowed := true }
def FnExactPeakOfUptoSaid : Prop := fnExactPeakOfUptoRow.holds Try.pinned (OpenSpec.upto fnExactPeakOfSpec)

/-- 'laws.FnExactLinksOf', WHERE WHAT IT READS IS OF BULK AT MOST 1048576: true; the input reads as it did. -/
def fnExactLinksOfUptoRow : OpenClaim := { program := "ytcpkplgfgpmomaa", sum := "13a390768213f1c024d27fd1a310fe3850e099758a6472f933ed7050dca2a109", func := "loop.example/g03201/laws.FnExactLinksOf", spec := "fnExactLinksOf", unfollowed := true, recurses := true, apart := false, narrowed := true }
def FnExactLinksOfUptoSaid : Prop := fnExactLinksOfUptoRow.holds Try.pinned (OpenSpec.upto fnExactLinksOfSpec)

/-- 'laws.FnExactTraceOf', WHERE WHAT IT READS IS OF BULK AT MOST 1048576: true; the input reads as it did. -/
def fnExactTraceOfUptoRow : OpenClaim := { program := "ytcpkplgfgpmomaa", sum := "13a390768213f1c024d27fd1a310fe3850e099758a6472f933ed7050dca2a109", func := "loop.example/g03201/laws.FnExactTraceOf", spec := "fnExactTraceOf", unfollowed := true, recurses := true, apart := false, narrowed := true }
def FnExactTraceOfUptoSaid : Prop := fnExactTraceOfUptoRow.holds Try.pinned (OpenSpec.upto fnExactTraceOfSpec)

/-- 'laws.FnExactIsJoined', WHERE WHAT IT READS IS OF BULK AT MOST 1048576: true; the input reads as it did. -/
def fnExactIsJoinedUptoRow : OpenClaim := { program := "ytcpkplgfgpmomaa", sum := "13a390768213f1c024d27fd1a310fe3850e099758a6472f933ed7050dca2a109", func := "loop.example/g03201/laws.FnExactIsJoined", spec := "fnExactIsJoined", unfollowed := true, recurses := true, apart := false, narrowed := true }
def FnExactIsJoinedUptoSaid : Prop := fnExactIsJoinedUptoRow.holds Try.pinned (OpenSpec.upto fnExactIsJoinedSpec)

/-- 'laws.FnExactProofOf', WHERE WHAT IT READS IS OF BULK AT MOST 1048576: true; the input reads as it did. -/
def fnExactProofOfUptoRow : OpenClaim := { program := "ytcpkplgfgpmomaa", sum := "13a390768213f1c024d27fd1a310fe3850e099758a6472f933ed7050dca2a109", func := "loop.example/g03201/laws.FnExactProofOf", spec := "fnExactProofOf", unfollowed := true, recurses := true, apart := false, narrowed := true }
def FnExactProofOfUptoSaid : Prop := fnExactProofOfUptoRow.holds Try.pinned (OpenSpec.upto fnExactProofOfSpec)

/-- 'laws.FnExactWordsOnRun', WHERE WHAT IT READS IS OF BULK AT MOST 1048576: true; the input reads as it did. -/
def fnExactWordsOnRunUptoRow : OpenClaim := { program := "ytcpkplgfgpmomaa", sum := "13a390768213f1c024d27fd1a310fe3850e099758a6472f933ed7050dca2a109", func := "loop.example/g03201/laws.FnExactWordsOnRun", spec := "fnExactWordsOnRun", unfollowed := true, recurses := true, apart := false, narrowed := true }
def FnExactWordsOnRunUptoSaid : Prop := fnExactWordsOnRunUptoRow.holds Try.pinned (OpenSpec.upto fnExactWordsOnRunSpec)

end Rows
end Go.Proofs.Ytcpkplgfgpmomaa
