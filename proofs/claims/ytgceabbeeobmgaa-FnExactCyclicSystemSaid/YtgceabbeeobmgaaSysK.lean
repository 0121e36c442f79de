/- Walks over the known systems (BracketSystem, ProjectorSystem, SortingSystem): the program's and the reference's hand back the same rules. -/





import Derived.Test.YtgceabbeeobmgaaMark
import Derived.Test.YtgceabbeeobmgaaApp
import Derived.Test.YtgceabbeeobmgaaRule
import Derived.Test.YtgceabbeeobmgaaWts
import Derived.Test.YtgceabbeeobmgaaApp2
import Derived.Deep.RegionLaw
namespace Go.Proofs.Ytgceabbeeobmgaa

open Go.RowKit Go.Shelf

/-- A system in memory of the call's own, and a bool. -/
def MadeSys (w : World) (l : Int) (n : Nat) (rs : List RuleT) (b : Bool) (e : Ending) (w' : World) : Prop :=
  ∃ A c, e = .returned (.tuple #[.agg #[.int .i64 l, .slice A n c], .bool b]) ∧ w'.ownsRow w.heap.size 34 2 (.slice A n c) n (cellsRule rs) ∧ Below w.heap.size w w'

end Go.Proofs.Ytgceabbeeobmgaa
