/-
  No cell of these rows narrows 'for every input' (looked for: loops, veiled, ifaces, maps, wideKeys, modest, calm, conditions, laid).
  DERIVED. THE GIVEN ROWS OF THIS SEAT. 12 by the template 'for every input the law returns true; each argument reads behind the call as it read before'; 0 by the template 'total and deterministic' (their statements: YtgnmfneinnojnaaTotals.lean).
  GIVEN WITH THE SEED: the statements are not yours to turn. If you find one false, say at which input.
  Laid BY PROGRAM, IN A SANDBOX (cutbox-rows.mjs): the forced cells as the released guide's own fill.sh prints them over the translation f1186f21a938378c… (all of the seat's roots in one cut). By AI agents, Wed Nov 11 2026. No macro, syntax, notation, axiom, sorry.
-/
import Derived.Test.YtgnmfneinnojnaaChecked
import GoSem.Claim
import GoSem.ClaimJoined
import GoSem.ClaimMapViews
import Derived.JoinedTies
import Derived.KernelRfl
namespace Go.Proofs.Ytgnmfneinnojnaa
/- THE CELL 'sum', in the pinned program and in every row, IS THE sha256 OF THE DUMP (.gsa) THAT YtgnmfneinnojnaaProg.lean LOADS. Nothing in Lean hashes anything: it is a label: what it is worth is what the hold of that sum in a sandbox is worth. -/
noncomputable def Try.pinned : Pinned := { name := "ytgnmfneinnojnaa", sum := "f1186f21a938378c499e279cc756b5146c22878621d2f2e64fc85b45298635b9", checked := Try.checked }
namespace Rows
def none {H : Type} : Left H := { results := [], args := [] }

/-- 'laws.FnExactProductTable': WHATEVER THE INPUT: true; the input reads as it did. -/
def fnExactProductTableSpec : ChangeSpec := { name := "fnExactProductTable", fn := fun _ => fun
  | [d1, d2] => { results := [.lit (.bool true)], args := [d1, d2] }
  | _ => none }
def fnExactProductTableRow : OpenClaim := { program := "ytgnmfneinnojnaa", sum := "f1186f21a938378c499e279cc756b5146c22878621d2f2e64fc85b45298635b9", func := "loop.example/g03201/laws.FnExactProductTable", spec := "fnExactProductTable", unfollowed := true, recurses := true, apart := false }
def FnExactProductTableSaid : Prop := fnExactProductTableRow.holds Try.pinned (OpenSpec.ofChange fnExactProductTableSpec)

/-- ITS FALSE NEIGHBOUR: 'it returns false'. Refute it at one input. -/
def fnExactProductTableWrong : ChangeSpec := { name := "fnExactProductTable", fn := fun _ => fun
  | [d1, d2] => { results := [.lit (.bool false)], args := [d1, d2] }
  | _ => none }
def FnExactProductTableWrongFalsely : Prop := fnExactProductTableRow.holds Try.pinned (OpenSpec.ofChange fnExactProductTableWrong)

/-- 'laws.FnExactFormatOrders': WHATEVER THE INPUT: true; the input reads as it did. -/
def fnExactFormatOrdersSpec : ChangeSpec := { name := "fnExactFormatOrders", fn := fun _ => fun
  | [d] => { results := [.lit (.bool true)], args := [d] }
  | _ => none }
def fnExactFormatOrdersRow : OpenClaim := { program := "ytgnmfneinnojnaa", sum := "f1186f21a938378c499e279cc756b5146c22878621d2f2e64fc85b45298635b9", func := "loop.example/g03201/laws.FnExactFormatOrders", spec := "fnExactFormatOrders", inPlace := ["internal/abi.NoEscape", "internal/bytealg.MakeNoZero"], apart := false }
def FnExactFormatOrdersSaid : Prop := fnExactFormatOrdersRow.holds Try.pinned (OpenSpec.ofChange fnExactFormatOrdersSpec)

/-- ITS FALSE NEIGHBOUR: 'it returns false'. Refute it at one input. -/
def fnExactFormatOrdersWrong : ChangeSpec := { name := "fnExactFormatOrders", fn := fun _ => fun
  | [d] => { results := [.lit (.bool false)], args := [d] }
  | _ => none }
def FnExactFormatOrdersWrongFalsely : Prop := fnExactFormatOrdersRow.holds Try.pinned (OpenSpec.ofChange fnExactFormatOrdersWrong)

/-- 'laws.FnExactOrderFor': WHATEVER THE INPUT: true; the input reads as it did. -/
def fnExactOrderForSpec : ChangeSpec := { name := "fnExactOrderFor", fn := fun _ => fun
  | [d1, d2] => { results := [.lit (.bool true)], args := [d1, d2] }
  | _ => none }
def fnExactOrderForRow : OpenClaim := { program := "ytgnmfneinnojnaa", sum := "f1186f21a938378c499e279cc756b5146c22878621d2f2e64fc85b45298635b9", func := "loop.example/g03201/laws.FnExactOrderFor", spec := "fnExactOrderFor", inPlace := ["internal/bytealg.IndexByteString", "internal/bytealg.IndexString"], unfollowed := true, recurses := true, named := ["internal/bytealg.MaxLen"], apart := false }
def FnExactOrderForSaid : Prop := fnExactOrderForRow.holds Try.pinned (OpenSpec.ofChange fnExactOrderForSpec)

/-- ITS FALSE NEIGHBOUR: 'it returns false'. Refute it at one input. -/
def fnExactOrderForWrong : ChangeSpec := { name := "fnExactOrderFor", fn := fun _ => fun
  | [d1, d2] => { results := [.lit (.bool false)], args := [d1, d2] }
  | _ => none }
def FnExactOrderForWrongFalsely : Prop := fnExactOrderForRow.holds Try.pinned (OpenSpec.ofChange fnExactOrderForWrong)

/-- 'laws.FnExactCountReached': WHATEVER THE INPUT: true; the input reads as it did. -/
def fnExactCountReachedSpec : ChangeSpec := { name := "fnExactCountReached", fn := fun _ => fun
  | [d1, d2] => { results := [.lit (.bool true)], args := [d1, d2] }
  | _ => none }
def fnExactCountReachedRow : OpenClaim := { program := "ytgnmfneinnojnaa", sum := "f1186f21a938378c499e279cc756b5146c22878621d2f2e64fc85b45298635b9", func := "loop.example/g03201/laws.FnExactCountReached", spec := "fnExactCountReached", unfollowed := true, recurses := true, apart := false }
def FnExactCountReachedSaid : Prop := fnExactCountReachedRow.holds Try.pinned (OpenSpec.ofChange fnExactCountReachedSpec)

/-- ITS FALSE NEIGHBOUR: 'it returns false'. Refute it at one input. -/
def fnExactCountReachedWrong : ChangeSpec := { name := "fnExactCountReached", fn := fun _ => fun
  | [d1, d2] => { results := [.lit (.bool false)], args := [d1, d2] }
  | _ => none }
def FnExactCountReachedWrongFalsely : Prop := fnExactCountReachedRow.holds Try.pinned (OpenSpec.ofChange fnExactCountReachedWrong)

/-- 'laws.FnExactLoopLength': WHATEVER THE INPUT: true; the input reads as it did. -/
def fnExactLoopLengthSpec : ChangeSpec := { name := "fnExactLoopLength", fn := fun _ => fun
  | [d1, d2] => { results := [.lit (.bool true)], args := [d1, d2] }
  | _ => none }
def fnExactLoopLengthRow : OpenClaim := { program := "ytgnmfneinnojnaa", sum := "f1186f21a938378c499e279cc756b5146c22878621d2f2e64fc85b45298635b9", func := "loop.example/g03201/laws.FnExactLoopLength", spec := "fnExactLoopLength", unfollowed := true, recurses := true, apart := false }
def FnExactLoopLengthSaid : Prop := fnExactLoopLengthRow.holds Try.pinned (OpenSpec.ofChange fnExactLoopLengthSpec)

/-- ITS FALSE NEIGHBOUR: 'it returns false'. Refute it at one input. -/
def fnExactLoopLengthWrong : ChangeSpec := { name := "fnExactLoopLength", fn := fun _ => fun
  | [d1, d2] => { results := [.lit (.bool false)], args := [d1, d2] }
  | _ => none }
def FnExactLoopLengthWrongFalsely : Prop := fnExactLoopLengthRow.holds Try.pinned (OpenSpec.ofChange fnExactLoopLengthWrong)

/-- 'laws.FnExactGrowsOn': WHATEVER THE INPUT: true; the input reads as it did. -/
def fnExactGrowsOnSpec : ChangeSpec := { name := "fnExactGrowsOn", fn := fun _ => fun
  | [d1, d2] => { results := [.lit (.bool true)], args := [d1, d2] }
  | _ => none }
def fnExactGrowsOnRow : OpenClaim := { program := "ytgnmfneinnojnaa", sum := "f1186f21a938378c499e279cc756b5146c22878621d2f2e64fc85b45298635b9", func := "loop.example/g03201/laws.FnExactGrowsOn", spec := "fnExactGrowsOn", unfollowed := true, recurses := true, apart := false }
def FnExactGrowsOnSaid : Prop := fnExactGrowsOnRow.holds Try.pinned (OpenSpec.ofChange fnExactGrowsOnSpec)

/-- ITS FALSE NEIGHBOUR: 'it returns false'. Refute it at one input. -/
def fnExactGrowsOnWrong : ChangeSpec := { name := "fnExactGrowsOn", fn := fun _ => fun
  | [d1, d2] => { results := [.lit (.bool false)], args := [d1, d2] }
  | _ => none }
def FnExactGrowsOnWrongFalsely : Prop := fnExactGrowsOnRow.holds Try.pinned (OpenSpec.ofChange fnExactGrowsOnWrong)

/-- 'laws.FnExactRunLoop': WHATEVER THE INPUT: true; the input reads as it did. -/
def fnExactRunLoopSpec : ChangeSpec := { name := "fnExactRunLoop", fn := fun _ => fun
  | [d1, d2] => { results := [.lit (.bool true)], args := [d1, d2] }
  | _ => none }
def fnExactRunLoopRow : OpenClaim := { program := "ytgnmfneinnojnaa", sum := "f1186f21a938378c499e279cc756b5146c22878621d2f2e64fc85b45298635b9", func := "loop.example/g03201/laws.FnExactRunLoop", spec := "fnExactRunLoop", unfollowed := true, recurses := true, apart := false }
def FnExactRunLoopSaid : Prop := fnExactRunLoopRow.holds Try.pinned (OpenSpec.ofChange fnExactRunLoopSpec)

/-- ITS FALSE NEIGHBOUR: 'it returns false'. Refute it at one input. -/
def fnExactRunLoopWrong : ChangeSpec := { name := "fnExactRunLoop", fn := fun _ => fun
  | [d1, d2] => { results := [.lit (.bool false)], args := [d1, d2] }
  | _ => none }
def FnExactRunLoopWrongFalsely : Prop := fnExactRunLoopRow.holds Try.pinned (OpenSpec.ofChange fnExactRunLoopWrong)

/-- 'laws.FnExactDistanceBetween': WHATEVER THE INPUT: true; the input reads as it did. -/
def fnExactDistanceBetweenSpec : ChangeSpec := { name := "fnExactDistanceBetween", fn := fun _ => fun
  | [d1, d2, d3, d4] => { results := [.lit (.bool true)], args := [d1, d2, d3, d4] }
  | _ => none }
def fnExactDistanceBetweenRow : OpenClaim := { program := "ytgnmfneinnojnaa", sum := "f1186f21a938378c499e279cc756b5146c22878621d2f2e64fc85b45298635b9", func := "loop.example/g03201/laws.FnExactDistanceBetween", spec := "fnExactDistanceBetween", unfollowed := true, recurses := true, apart := false }
def FnExactDistanceBetweenSaid : Prop := fnExactDistanceBetweenRow.holds Try.pinned (OpenSpec.ofChange fnExactDistanceBetweenSpec)

/-- ITS FALSE NEIGHBOUR: 'it returns false'. Refute it at one input. -/
def fnExactDistanceBetweenWrong : ChangeSpec := { name := "fnExactDistanceBetween", fn := fun _ => fun
  | [d1, d2, d3, d4] => { results := [.lit (.bool false)], args := [d1, d2, d3, d4] }
  | _ => none }
def FnExactDistanceBetweenWrongFalsely : Prop := fnExactDistanceBetweenRow.holds Try.pinned (OpenSpec.ofChange fnExactDistanceBetweenWrong)

/-- 'laws.FnExactEndsAlways': WHATEVER THE INPUT: true; the input reads as it did. -/
def fnExactEndsAlwaysSpec : ChangeSpec := { name := "fnExactEndsAlways", fn := fun _ => fun
  | [d1, d2] => { results := [.lit (.bool true)], args := [d1, d2] }
  | _ => none }
def fnExactEndsAlwaysRow : OpenClaim := { program := "ytgnmfneinnojnaa", sum := "f1186f21a938378c499e279cc756b5146c22878621d2f2e64fc85b45298635b9", func := "loop.example/g03201/laws.FnExactEndsAlways", spec := "fnExactEndsAlways", unfollowed := true, recurses := true, apart := false }
def FnExactEndsAlwaysSaid : Prop := fnExactEndsAlwaysRow.holds Try.pinned (OpenSpec.ofChange fnExactEndsAlwaysSpec)

/-- ITS FALSE NEIGHBOUR: 'it returns false'. Refute it at one input. -/
def fnExactEndsAlwaysWrong : ChangeSpec := { name := "fnExactEndsAlways", fn := fun _ => fun
  | [d1, d2] => { results := [.lit (.bool false)], args := [d1, d2] }
  | _ => none }
def FnExactEndsAlwaysWrongFalsely : Prop := fnExactEndsAlwaysRow.holds Try.pinned (OpenSpec.ofChange fnExactEndsAlwaysWrong)

/-- 'laws.FnExactShortenProof': WHATEVER THE INPUT: true; the input reads as it did. -/
def fnExactShortenProofSpec : ChangeSpec := { name := "fnExactShortenProof", fn := fun _ => fun
  | [d1, d2, d3] => { results := [.lit (.bool true)], args := [d1, d2, d3] }
  | _ => none }
def fnExactShortenProofRow : OpenClaim := { program := "ytgnmfneinnojnaa", sum := "f1186f21a938378c499e279cc756b5146c22878621d2f2e64fc85b45298635b9", func := "loop.example/g03201/laws.FnExactShortenProof", spec := "fnExactShortenProof", unfollowed := true, recurses := true, apart := false }
def FnExactShortenProofSaid : Prop := fnExactShortenProofRow.holds Try.pinned (OpenSpec.ofChange fnExactShortenProofSpec)

/-- ITS FALSE NEIGHBOUR: 'it returns false'. Refute it at one input. -/
def fnExactShortenProofWrong : ChangeSpec := { name := "fnExactShortenProof", fn := fun _ => fun
  | [d1, d2, d3] => { results := [.lit (.bool false)], args := [d1, d2, d3] }
  | _ => none }
def FnExactShortenProofWrongFalsely : Prop := fnExactShortenProofRow.holds Try.pinned (OpenSpec.ofChange fnExactShortenProofWrong)

/-- 'laws.FnExactIsJoined': WHATEVER THE INPUT: true; the input reads as it did. -/
def fnExactIsJoinedSpec : ChangeSpec := { name := "fnExactIsJoined", fn := fun _ => fun
  | [d1, d2] => { results := [.lit (.bool true)], args := [d1, d2] }
  | _ => none }
def fnExactIsJoinedRow : OpenClaim := { program := "ytgnmfneinnojnaa", sum := "f1186f21a938378c499e279cc756b5146c22878621d2f2e64fc85b45298635b9", func := "loop.example/g03201/laws.FnExactIsJoined", spec := "fnExactIsJoined", unfollowed := true, recurses := true, apart := false }
def FnExactIsJoinedSaid : Prop := fnExactIsJoinedRow.holds Try.pinned (OpenSpec.ofChange fnExactIsJoinedSpec)

/-- ITS FALSE NEIGHBOUR: 'it returns false'. Refute it at one input. -/
def fnExactIsJoinedWrong : ChangeSpec := { name := "fnExactIsJoined", fn := fun _ => fun
  | [d1, d2] => { results := [.lit (.bool false)], args := [d1, d2] }
  | _ => none }
def FnExactIsJoinedWrongFalsely : Prop := fnExactIsJoinedRow.holds Try.pinned (OpenSpec.ofChange fnExactIsJoinedWrong)

/-- 'laws.FnExactProofOf': WHATEVER THE INPUT: true; the input reads as it did. -/
def fnExactProofOfSpec : ChangeSpec := { name := "fnExactProofOf", fn := fun _ => fun
  | [d1, d2, d3] => { results := [.lit (.bool true)], args := [d1, d2, d3] }
  | _ => none }
def fnExactProofOfRow : OpenClaim := { program := "ytgnmfneinnojnaa", sum := "f1186f21a938378c499e279cc756b5146c22878621d2f2e64fc85b45298635b9", func := "loop.example/g03201/laws.FnExactProofOf", spec := "fnExactProofOf", unfollowed := true, recurses := true, apart := false }
def FnExactProofOfSaid : Prop := fnExactProofOfRow.holds Try.pinned (OpenSpec.ofChange fnExactProofOfSpec)

/-- ITS FALSE NEIGHBOUR: 'it returns false'. Refute it at one input. -/
def fnExactProofOfWrong : ChangeSpec := { name := "fnExactProofOf", fn := fun _ => fun
  | [d1, d2, d3] => { results := [.lit (.bool false)], args := [d1, d2, d3] }
  | _ => none }
def FnExactProofOfWrongFalsely : Prop := fnExactProofOfRow.holds Try.pinned (OpenSpec.ofChange fnExactProofOfWrong)

/- THE SECOND FORM. 'bulk': how many values and letters a reading holds, each counted each time it is reached (what is shared counts as often as it is met; a slice's spare places count too). A statement '..UptoSaid' is the law's where the arguments, and the package variables that the reading takes, are together of bulk at most 1048576: NARROWER than '..Said'. Prove '..Said' where nothing that the law and all that it calls make is longer than what came in: it says more and counts as full. Else prove '..UptoSaid'. A law counts once. -/
mutual
def uptoBulk {H : Type} : DataW H → Nat
  | .lit (.string bytes) => bytes.length + 1
  | .lit _ => 1
  | .nil => 1
  | .ptr d => uptoBulk d + 1
  | .slice elems spare => uptoBulkAll elems + uptoBulkAll spare + 1
  | .agg parts => uptoBulkAll parts + 1
  | .iface _ d => uptoBulk d + 1
  | .map entries => uptoBulkEntries entries + 1
  | .held _ => 1
def uptoBulkAll {H : Type} : List (DataW H) → Nat
  | [] => 0
  | d :: r => uptoBulk d + uptoBulkAll r
def uptoBulkEntries {H : Type} : List (Lit × DataW H) → Nat
  | [] => 0
  | x :: r => uptoBulkEntry x + uptoBulkEntries r
def uptoBulkEntry {H : Type} : Lit × DataW H → Nat
  | (.string bytes, d) => bytes.length + uptoBulk d + 1
  | (_, d) => uptoBulk d + 1
 end
def uptoSmall : (H : Type) → List (DataW H) → Bool := fun _ ds => decide (uptoBulkAll ds ≤ 1048576)
def OpenSpec.upto (s : _root_.Go.ChangeSpec) : _root_.Go.OpenSpec := { _root_.Go.OpenSpec.ofChange s with cond := some uptoSmall }

/-- 'laws.FnExactProductTable', WHERE WHAT IT READS IS OF BULK AT MOST 1048576: true; the input reads as it did. -/
def fnExactProductTableUptoRow : OpenClaim := { program := "ytgnmfneinnojnaa", sum := "f1186f21a938378c499e279cc756b5146c22878621d2f2e64fc85b45298635b9", func := "loop.example/g03201/laws.FnExactProductTable", spec := "fnExactProductTable", unfollowed := true, recurses := true, apart := false, narrowed := true }
def FnExactProductTableUptoSaid : Prop := fnExactProductTableUptoRow.holds Try.pinned (OpenSpec.upto fnExactProductTableSpec)

/-- 'laws.FnExactFormatOrders', WHERE WHAT IT READS IS OF BULK AT MOST 1048576: true; the input reads as it did. -/
def fnExactFormatOrdersUptoRow : OpenClaim := { program := "ytgnmfneinnojnaa", sum := "f1186f21a938378c499e279cc756b5146c22878621d2f2e64fc85b45298635b9", func := "loop.example/g03201/laws.FnExactFormatOrders", spec := "fnExactFormatOrders", inPlace := ["internal/abi.NoEscape", "internal/bytealg.MakeNoZero"], apart := false, narrowed := true }
def FnExactFormatOrdersUptoSaid : Prop := fnExactFormatOrdersUptoRow.holds Try.pinned (OpenSpec.upto fnExactFormatOrdersSpec)

/-- 'laws.FnExactOrderFor', WHERE WHAT IT READS IS OF BULK AT MOST 1048576: true; the input reads as it did. -/
def fnExactOrderForUptoRow : OpenClaim := { program := "ytgnmfneinnojnaa", sum := "f1186f21a938378c499e279cc756b5146c22878621d2f2e64fc85b45298635b9", func := "loop.example/g03201/laws.FnExactOrderFor", spec := "fnExactOrderFor", inPlace := ["internal/bytealg.IndexByteString", "internal/bytealg.IndexString"], unfollowed := true, recurses := true, named := ["internal/bytealg.MaxLen"], apart := false, narrowed := true }
def FnExactOrderForUptoSaid : Prop := fnExactOrderForUptoRow.holds Try.pinned (OpenSpec.upto fnExactOrderForSpec)

/-- 'laws.FnExactCountReached', WHERE WHAT IT READS IS OF BULK AT MOST 1048576: true; the input reads as it did. -/
def fnExactCountReachedUptoRow : OpenClaim := { program := "ytgnmfneinnojnaa", sum := "f1186f21a938378c499e279cc756b5146c22878621d2f2e64fc85b45298635b9", func := "loop.example/g03201/laws.FnExactCountReached", spec := "fnExactCountReached", unfollowed := true, recurses := true, apart := false, narrowed := true }
def FnExactCountReachedUptoSaid : Prop := fnExactCountReachedUptoRow.holds Try.pinned (OpenSpec.upto fnExactCountReachedSpec)

/-- 'laws.FnExactLoopLength', WHERE WHAT IT READS IS OF BULK AT MOST 1048576: true; the input reads as it did. -/
def fnExactLoopLengthUptoRow : OpenClaim := { program := "ytgnmfneinnojnaa", sum := "f1186f21a938378c499e279cc756b5146c22878621d2f2e64fc85b45298635b9", func := "loop.example/g03201/laws.FnExactLoopLength", spec := "fnExactLoopLength", unfollowed := true, recurses := true, apart := false, narrowed := true }
def FnExactLoopLengthUptoSaid : Prop := fnExactLoopLengthUptoRow.holds Try.pinned (OpenSpec.upto fnExactLoopLengthSpec)

/-- 'laws.FnExactGrowsOn', WHERE WHAT IT READS IS OF BULK AT MOST 1048576: true; the input reads as it did. -/
def fnExactGrowsOnUptoRow : OpenClaim := { program := "ytgnmfneinnojnaa", sum := "f1186f21a938378c499e279cc756b5146c22878621d2f2e64fc85b45298635b9", func := "loop.example/g03201/laws.FnExactGrowsOn", spec := "fnExactGrowsOn", unfollowed := true, recurses := true, apart := false, narrowed := true }
def FnExactGrowsOnUptoSaid : Prop := fnExactGrowsOnUptoRow.holds Try.pinned (OpenSpec.upto fnExactGrowsOnSpec)

/-- 'laws.FnExactRunLoop', WHERE WHAT IT READS IS OF BULK AT MOST 1048576: true; the input reads as it did. -/
def fnExactRunLoopUptoRow : OpenClaim := { program := "ytgnmfneinnojnaa", sum := "f1186f21a938378c499e279cc756b5146c22878621d2f2e64fc85b45298635b9", func := "loop.example/g03201/laws.FnExactRunLoop", spec := "fnExactRunLoop", unfollowed := true, recurses := true, apart := false, narrowed := true }
def FnExactRunLoopUptoSaid : Prop := fnExactRunLoopUptoRow.holds Try.pinned (OpenSpec.upto fnExactRunLoopSpec)

/-- 'laws.FnExactDistanceBetween', WHERE WHAT IT READS IS OF BULK AT MOST 1048576: true; the input reads as it did. -/
def fnExactDistanceBetweenUptoRow : OpenClaim := { program := "ytgnmfneinnojnaa", sum := "f1186f21a938378c499e279cc756b5146c22878621d2f2e64fc85b45298635b9", func := "loop.example/g03201/laws.FnExactDistanceBetween", spec := "fnExactDistanceBetween", unfollowed := true, recurses := true, apart := false, narrowed := true }
def FnExactDistanceBetweenUptoSaid : Prop := fnExactDistanceBetweenUptoRow.holds Try.pinned (OpenSpec.upto fnExactDistanceBetweenSpec)

/-- 'laws.FnExactEndsAlways', WHERE WHAT IT READS IS OF BULK AT MOST 1048576: true; the input reads as it did. -/
def fnExactEndsAlwaysUptoRow : OpenClaim := { program := "ytgnmfneinnojnaa", sum := "f1186f21a938378c499e279cc756b5146c22878621d2f2e64fc85b45298635b9", func := "loop.example/g03201/laws.FnExactEndsAlways", spec := "fnExactEndsAlways", unfollowed := true, recurses := true, apart := false, narrowed := true }
def FnExactEndsAlwaysUptoSaid : Prop := fnExactEndsAlwaysUptoRow.holds Try.pinned (OpenSpec.upto fnExactEndsAlwaysSpec)

/-- 'laws.FnExactShortenProof', WHERE WHAT IT READS IS OF BULK AT MOST 1048576: true; the input reads as it did. -/
def fnExactShortenProofUptoRow : OpenClaim := { program := "ytgnmfneinnojnaa", sum := "f1186f21a938378c499e279cc756b5146c22878621d2f2e64fc85b45298635b9", func := "loop.example/g03201/laws.FnExactShortenProof", spec := "fnExactShortenProof", unfollowed := true, recurses := true, apart := false, narrowed := true }
def FnExactShortenProofUptoSaid : Prop := fnExactShortenProofUptoRow.holds Try.pinned (OpenSpec.upto fnExactShortenProofSpec)

/-- 'laws.FnExactIsJoined', WHERE WHAT IT READS IS OF BULK AT MOST 1048576: true; the input reads as it did. -/
def fnExactIsJoinedUptoRow : OpenClaim := { program := "ytgnmfneinnojnaa", sum := "f1186f21a938378c499e279cc756b5146c22878621d2f2e64fc85b45298635b9", func := "loop.example/g03201/laws.FnExactIsJoined", spec := "fnExactIsJoined", unfollowed := true, recurses := true, apart := false, narrowed := true }
def FnExactIsJoinedUptoSaid : Prop := fnExactIsJoinedUptoRow.holds Try.pinned (OpenSpec.upto fnExactIsJoinedSpec)

/-- 'laws.FnExactProofOf', WHERE WHAT IT READS IS OF BULK AT MOST 1048576: true; the input reads as it did. -/
def fnExactProofOfUptoRow : OpenClaim := { program := "ytgnmfneinnojnaa", sum := "f1186f21a938378c499e279cc756b5146c22878621d2f2e64fc85b45298635b9", func := "loop.example/g03201/laws.FnExactProofOf", spec := "fnExactProofOf", unfollowed := true, recurses := true, apart := false, narrowed := true }
def FnExactProofOfUptoSaid : Prop := fnExactProofOfUptoRow.holds Try.pinned (OpenSpec.upto fnExactProofOfSpec)

end Rows
end Go.Proofs.Ytgnmfneinnojnaa
