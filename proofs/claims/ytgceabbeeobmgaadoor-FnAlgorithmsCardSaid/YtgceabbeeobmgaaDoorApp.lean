/- append of one element, as a law of the walk; what appends and results of two need. -/

import Derived.Test.YtgceabbeeobmgaaDoorBase
namespace Go.Proofs.YtgceabbeeobmgaaDoor

open Go.RowKit Go.Shelf

theorem one_cell1 (v : Int) : ∀ u ∈ (#[Value.int .i64 v] : Array Value).toList, u.oneCell' = true := by intro u hu; simp at hu; subst hu; rfl

theorem ints_snoc (xs : List Int) (x : Int) : ints (xs ++ [x]) = ints xs ++ [.int .i64 x] := by simp [ints]
theorem Rd.drew {w : World} {A : Option Addr} {xs : List Value} (h : Rd w A xs) : Rd w.drew A xs := h
end Go.Proofs.YtgceabbeeobmgaaDoor
