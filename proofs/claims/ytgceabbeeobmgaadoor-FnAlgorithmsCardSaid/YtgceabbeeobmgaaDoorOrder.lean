/- Walks over the laws' helpers for impl.Order: eqOrder, eqOrderS, markOrderS, heldOrderS and the readings of slices of them. -/


import Derived.Test.YtgceabbeeobmgaaDoorMark
import Derived.Test.YtgceabbeeobmgaaDoorApp
namespace Go.Proofs.YtgceabbeeobmgaaDoor

open Go.RowKit Go.Shelf

abbrev OrderT : Type := ByteArray × ByteArray × Bool
def encOrder (x : OrderT) : List Value := [.string x.1, .string x.2.1, .bool x.2.2]
def cellsOrder (xs : List OrderT) : List Value := xs.flatMap encOrder
/-- The cells of element k. -/
theorem rd_Order {w : World} {A : Option Addr} {xs : List OrderT} (h : Rd w A (cellsOrder xs)) {k : Nat} (hk : k < xs.length) : ∃ b off, A = some ⟨b, off, none⟩ ∧ b < w.heap.size ∧
    w.cell? ⟨b, off + k * 3, none⟩ = some (.string xs[k].1) ∧ w.cell? ⟨b, off + k * 3 + 1, none⟩ = some (.string xs[k].2.1) ∧ w.cell? ⟨b, off + k * 3 + 2, none⟩ = some (.bool xs[k].2.2) := by
  have f0 := flat_get (enc := encOrder) (m := 3) (fun _ => rfl) xs k 0 hk (by omega)
  obtain ⟨b, off, e, hb, hc⟩ := h (by intro e; unfold cellsOrder at e; rw [e] at f0; cases f0)
  refine ⟨b, off, e, hb, ?_, ?_, ?_⟩
  · exact hc (k * 3) _ f0
  · exact hc (k * 3 + 1) _ (flat_get (enc := encOrder) (m := 3) (fun _ => rfl) xs k 1 hk (by omega))
  · exact hc (k * 3 + 2) _ (flat_get (enc := encOrder) (m := 3) (fun _ => rfl) xs k 2 hk (by omega))





end Go.Proofs.YtgceabbeeobmgaaDoor
