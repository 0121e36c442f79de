/- A pair of a word and two steps: the laws' helpers toStep, toPair and szPair, and a pair that came in. -/
import Derived.Test.YtnlagiopmkjmlaaStep
import Derived.Test.YtnlagiopmkjmlaaOpenArgs
import Derived.Test.YtnlagiopmkjmlaaApp2
namespace Go.Proofs.Ytnlagiopmkjmlaa
open Go.ChangeShapes Go.WideShapes Go.ChangeAt Go.RowKit Go.Shelf

abbrev PairT : Type := ByteArray × Int × Int × Int × Int





end Go.Proofs.Ytnlagiopmkjmlaa
