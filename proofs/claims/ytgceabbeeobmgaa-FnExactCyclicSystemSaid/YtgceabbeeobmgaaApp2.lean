/- append of one element inside a region that draws its order; small lemmas on owned rows. -/

import Derived.Test.YtgceabbeeobmgaaApp
namespace Go.Proofs.Ytgceabbeeobmgaa

open Go.RowKit Go.Shelf

theorem Bk.cast {w : World} {g g' : Nat} {t : TypeId} {cs : Array Value} (h : Bk w g t cs) (e : g = g') : Bk w g' t cs := e ▸ h

end Go.Proofs.Ytgceabbeeobmgaa
