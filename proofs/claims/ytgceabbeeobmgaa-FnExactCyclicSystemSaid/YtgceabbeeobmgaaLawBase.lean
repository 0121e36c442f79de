/- What the laws' walks need: sizes that are counted down. -/

import Derived.Test.YtgceabbeeobmgaaMark
namespace Go.Proofs.Ytgceabbeeobmgaa

open Go.RowKit Go.Shelf

theorem le_big {n : Nat} (h : n ≤ 1048576) : n ≤ 9223372036854775807 := by omega

end Go.Proofs.Ytgceabbeeobmgaa
