/- Walks over dotted, l03Side, Join of the reference and FormatOrders of both: both give the same text. -/






import Derived.Test.YtgceabbeeobmgaaDoorOrder
import Derived.Test.YtgceabbeeobmgaaDoorStr
import Derived.Test.YtgceabbeeobmgaaDoorApp2
import Derived.Test.YtgceabbeeobmgaaDoorApp3
import Derived.Deep.RegionLaw
import Derived.Lib.Join
namespace Go.Proofs.YtgceabbeeobmgaaDoor

open Go.RowKit Go.Shelf

theorem ba_eq {a b : ByteArray} (h : a.data.toList = b.data.toList) : a = b := by
  cases a; cases b; simp_all
theorem own_drewF {w : World} {base : Nat} {t : TypeId} {m n : Nat} {v : Value} {xs : List Value} (h : w.ownsRow base t m v n xs) : w.drew.ownsRow base t m v n xs := h


end Go.Proofs.YtgceabbeeobmgaaDoor
