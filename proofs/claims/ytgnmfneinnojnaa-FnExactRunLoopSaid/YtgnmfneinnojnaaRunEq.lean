/- Walk over the laws' eqRun at one and the same run. -/
import Derived.Test.YtgnmfneinnojnaaRun
namespace Go.Proofs.Ytgnmfneinnojnaa
open Go.RowKit Go.Shelf

set_option maxRecDepth 100000 in
set_option maxHeartbeats 400000 in
theorem eqRun_same (x0 : ByteArray) (x1 x2 : Int) (w : World) :
    Calls Try.prog 40 #[.agg #[.string x0, .int .i64 x1, .int .i64 x2], .agg #[.string x0, .int .i64 x1, .int .i64 x2]] w (Kept w (.bool true)) := by
  go_enter Try.func40, Try.ntmps40
  go_wp2_with fail
  go_ret
  exact ⟨rfl, ((Below.refl _ _).alloc (Nat.le_refl _) _).alloc (by simp) _⟩

end Go.Proofs.Ytgnmfneinnojnaa
