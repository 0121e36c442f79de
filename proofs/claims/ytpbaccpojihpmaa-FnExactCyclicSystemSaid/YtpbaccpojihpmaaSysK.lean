/- Walks over the known systems (BracketSystem, ProjectorSystem, SortingSystem): the program's and the reference's hand back the same rules. -/
import Derived.Test.YtpbaccpojihpmaaLetter
import Derived.Test.YtpbaccpojihpmaaRule
import Derived.Test.YtpbaccpojihpmaaWts
import Derived.Test.YtpbaccpojihpmaaApp2
import Derived.Deep.RegionLaw
namespace Go.Proofs.Ytpbaccpojihpmaa
open Go.RowKit Go.Shelf

/-- A system in memory of the call's own, and a bool. -/
def MadeSys (w : World) (l : Int) (n : Nat) (rs : List RuleT) (b : Bool) (e : Ending) (w' : World) : Prop :=
  ∃ A c, e = .returned (.tuple #[.agg #[.int .i64 l, .slice A n c], .bool b]) ∧ w'.ownsRow w.heap.size 101 2 (.slice A n c) n (cellsRule rs) ∧ Below w.heap.size w w'

theorem cellsRule_snoc (rs : List RuleT) (r : RuleT) : cellsRule (rs ++ [r]) = cellsRule rs ++ [.string r.1, .string r.2] := by simp [cellsRule, encRule]
theorem one_cell_rule (a b : ByteArray) : ∀ u ∈ (#[Value.string a, Value.string b] : Array Value).toList, u.oneCell' = true := by
  intro u hu
  simp at hu
  rcases hu with rfl | rfl <;> rfl

def bracketR (i : Nat) : RuleT := (letter (2 * i) ++ letter (2 * i + 1), ⟨#[]⟩)
/-- The rules of the bracket system. -/
def brackets (k : Int) : List RuleT := if inB k 1 2 then (List.range k.toNat).map bracketR else []
def bracketL (k : Int) : Int := if inB k 1 2 then 2 * k else 0

def projR (i : Nat) : RuleT := (letter i ++ letter i, letter i)
/-- The rules of the projector system. -/
def projs (k : Int) : List RuleT := if inB k 1 4 then (List.range k.toNat).map projR else []
def projL (k : Int) : Int := if inB k 1 4 then k else 0
theorem brackets_len (k : Int) : (brackets k).length ≤ 1048576 := by
  unfold brackets
  split
  · next h => have := inB_out h.symm; simp; omega
  · simp
theorem projs_len (k : Int) : (projs k).length ≤ 1048576 := by
  unfold projs
  split
  · next h => have := inB_out h.symm; simp; omega
  · simp





end Go.Proofs.Ytpbaccpojihpmaa
