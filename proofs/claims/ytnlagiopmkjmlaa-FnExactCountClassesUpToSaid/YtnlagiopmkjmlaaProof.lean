/- Walks over ProofOf (the program's and the reference's) and what it calls: both hand back the same links. -/
import Derived.Test.YtnlagiopmkjmlaaTrace
import Derived.Test.YtnlagiopmkjmlaaTurn
import Derived.Deep.RegionLaw
namespace Go.Proofs.Ytnlagiopmkjmlaa
open Go.RowKit Go.Shelf

def linkOf (b : Bool) (x : StepT) : LinkT := (x.1, x.2, b)
theorem turn_links (xs : List StepT) : turnL (xs.map (linkOf false)) = xs.reverse.map (linkOf true) := by
  rw [turnL, ← List.map_reverse, List.map_map]
  rfl
/-- Do the two words have chains to the same reduced word, short enough? -/
def pfOk (l : Int) (rs : List RuleT) (u v : ByteArray) : Bool := takesOk l rs u && takesOk l rs v && ((normS rs u).toList == (normS rs v).toList) && decide ((trS l rs u).length + (trS l rs v).length ≤ 200)
/-- ProofOf, in plain words. -/
def pfL (l : Int) (rs : List RuleT) (u v : ByteArray) : List LinkT := if pfOk l rs u v then (trS l rs u).map (linkOf false) ++ (trS l rs v).reverse.map (linkOf true) else []
theorem pfL_len (l : Int) (rs : List RuleT) (u v : ByteArray) : (pfL l rs u v).length ≤ 1048576 := by
  unfold pfL
  split
  · next h =>
    unfold pfOk at h
    simp only [Bool.and_eq_true, decide_eq_true_eq] at h
    rw [List.length_append, List.length_map, List.length_map, List.length_reverse]
    omega
  · simp
theorem cellsLink_app (xs ys : List LinkT) : cellsLink (xs ++ ys) = cellsLink xs ++ cellsLink ys := by simp [cellsLink]
theorem one_cell_links (xs : List LinkT) : ∀ u ∈ cellsLink xs, u.oneCell' = true := by
  intro u hu
  obtain ⟨x, _, hx⟩ := List.mem_flatMap.1 hu
  simp [encLink] at hx
  rcases hx with rfl | rfl | rfl <;> rfl




end Go.Proofs.Ytnlagiopmkjmlaa
