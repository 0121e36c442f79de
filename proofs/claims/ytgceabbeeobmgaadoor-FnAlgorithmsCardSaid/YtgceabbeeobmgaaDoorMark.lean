/- The laws' markText: the text of a mark, a plain function of its number; and cells of slices of structs. -/



import Derived.Test.YtgceabbeeobmgaaDoorOpen
import Derived.Deep.RegionHeld3
import Derived.StillTailTactics
namespace Go.Proofs.YtgceabbeeobmgaaDoor

open Go.RowKit Go.Shelf

/-- 'string([]byte{x})': the slice of one byte that has just been laid. -/
theorem conv_byte (w : World) (x : Int) :
    (convert 22 9 (.slice (some ⟨w.heap.size, 0, none⟩) 1 1)).run Tryd.prog (w.alloc (.cells #[.int .u8 x] 5)) = .ok (.string ⟨#[UInt8.ofNat x.toNat]⟩) (w.alloc (.cells #[.int .u8 x] 5)) := by
  rw [run_convert_bytes_string _ _ _ _ _ _ _ Tryd.underlying22 Tryd.underlying5 Tryd.underlying9]
  rw [run_bytesToString _ _ _ _ [x] ?_]
  · rfl
  · simp [loadCells, loadCellsFrom, go_sem]

theorem flat_get {α : Type} {enc : α → List Value} {m : Nat} (hm : ∀ x, (enc x).length = m) (xs : List α) (i f : Nat) (hi : i < xs.length) (hf : f < m) : (xs.flatMap enc)[i * m + f]? = (enc xs[i])[f]? := by
  induction xs generalizing i with
  | nil => simp at hi
  | cons x t ih =>
    rw [List.flatMap_cons]
    cases i with
    | zero => rw [List.getElem?_append_left (by rw [hm]; omega)]; simp
    | succ i =>
      rw [List.getElem?_append_right (by rw [hm, Nat.add_mul]; omega), hm]
      have e : (i + 1) * m + f - m = i * m + f := by rw [Nat.add_mul]; omega
      rw [e, ih i (by simpa using hi)]
      simp

end Go.Proofs.YtgceabbeeobmgaaDoor
