/- append of one element, as a law of the walk; what appends and results of two need. -/
import Derived.Test.YtgceabbeeobmgaaDoorBase
namespace Go.Proofs.YtgceabbeeobmgaaDoor
open Go.RowKit Go.Shelf

/-- What is left of a size after t more. -/
def szLeft (left : Int) (t : Nat) : Int := if left - t < 0 then -1 else left - t
theorem mem_sum {α : Type} (f : α → Nat) (xs : List α) (x : α) (h : x ∈ xs) : f x ≤ (xs.map f).sum := by
  induction xs with
  | nil => cases h
  | cons y t ih =>
    rw [List.map_cons, List.sum_cons]
    rcases List.mem_cons.1 h with e | e
    · subst e; omega
    · have := ih e; omega
theorem Rd.drew {w : World} {A : Option Addr} {xs : List Value} (h : Rd w A xs) : Rd w.drew A xs := h
end Go.Proofs.YtgceabbeeobmgaaDoor
