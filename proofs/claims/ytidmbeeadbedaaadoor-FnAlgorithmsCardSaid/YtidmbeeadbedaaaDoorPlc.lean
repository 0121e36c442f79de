/- Walk over PlacesOf of the reference, and its plain words. -/
import Derived.Test.YtidmbeeadbedaaaDoorWord
import Derived.Test.YtidmbeeadbedaaaDoorMark
import Derived.Test.YtidmbeeadbedaaaDoorApp2
import Derived.Lib.IndexMore
namespace Go.Proofs.YtidmbeeadbedaaaDoor
open Go.RowKit Go.Shelf

/-- The word s has the part l at place i. -/
def oc (s l : ByteArray) (i : Nat) : Bool := (s.extract i (i + l.size)).toList == l.toList
theorem oc_occ {s l : ByteArray} {i : Nat} (h : i + l.size ≤ s.size) : oc s l i = Lib.occAt s.data.toList l.data.toList i := by
  rw [Lib.occAt_iff_take _ _ _ h, oc, ByteArray.toList_eq, ByteArray.toList_eq]
  congr 1
  simp [ByteArray.data_extract, List.extract_eq_take_drop]
def plc (s l : ByteArray) (q : Nat) : List Int := ((List.range q).filter (oc s l)).map fun i : Nat => (i : Int)
theorem plc_yes {s l : ByteArray} {q : Nat} (h : oc s l q = true) : plc s l (q + 1) = plc s l q ++ [(q : Int)] := by
  rw [plc, List.range_succ, List.filter_append, List.map_append]; simp [plc, h]
theorem plc_no {s l : ByteArray} {q : Nat} (h : oc s l q = false) : plc s l (q + 1) = plc s l q := by
  rw [plc, List.range_succ, List.filter_append, List.map_append]; simp [plc, h]
theorem plc_len (s l : ByteArray) (q : Nat) : (plc s l q).length ≤ q := by
  rw [plc, List.length_map]
  exact Nat.le_trans (List.length_filter_le _ _) (by rw [List.length_range]; exact Nat.le_refl _)
theorem isEmpty_eq (s : ByteArray) : s.toList.isEmpty = decide (s = ⟨#[]⟩) := by
  rw [← str_eq, show (⟨#[]⟩ : ByteArray).toList = [] by rw [ByteArray.toList_eq]]
  cases s.toList <;> rfl


end Go.Proofs.YtidmbeeadbedaaaDoor
