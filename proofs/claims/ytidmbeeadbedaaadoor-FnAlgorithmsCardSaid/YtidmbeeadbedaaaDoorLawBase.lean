/- What the laws' walks need: sizes that are counted down. -/
import Derived.Test.YtidmbeeadbedaaaDoorMark
namespace Go.Proofs.YtidmbeeadbedaaaDoor
open Go.RowKit Go.Shelf

theorem le_big {n : Nat} (h : n ≤ 1048576) : n ≤ 9223372036854775807 := by omega

theorem le_big2 {n : Nat} (h : n ≤ 8589934592) : n ≤ 9223372036854775807 := by omega
theorem own_drew {w : World} {b : Nat} {t : TypeId} {m n : Nat} {v : Value} {xs : List Value} (h : w.ownsRow b t m v n xs) : w.drew.ownsRow b t m v n xs := h

end Go.Proofs.YtidmbeeadbedaaaDoor
