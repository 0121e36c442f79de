/- Walk over PlacesOf of the reference, and its plain words. -/
import Derived.Test.YtnlagiopmkjmlaaWord
import Derived.Test.YtnlagiopmkjmlaaMark
import Derived.Test.YtnlagiopmkjmlaaApp2
import Derived.Lib.IndexMore
namespace Go.Proofs.Ytnlagiopmkjmlaa
open Go.RowKit Go.Shelf

/-- The word s has the part l at place i. -/
def oc (s l : ByteArray) (i : Nat) : Bool := (s.extract i (i + l.size)).toList == l.toList
theorem oc_occ {s l : ByteArray} {i : Nat} (h : i + l.size ≤ s.size) : oc s l i = Lib.occAt s.data.toList l.data.toList i := by
  rw [Lib.occAt_iff_take _ _ _ h, oc, ByteArray.toList_eq, ByteArray.toList_eq]
  congr 1
  simp [ByteArray.data_extract, List.extract_eq_take_drop]
def plc (s l : ByteArray) (q : Nat) : List Int := ((List.range q).filter (oc s l)).map fun i : Nat => (i : Int)
theorem plc_yes {s l : ByteArray} {q : Nat} (h : oc s l q = true) : plc s l (q + 1) = plc s l q ++ [(q : Int)] := by
  rw [plc, List.range_succ, List.filter_append, List.map_append]; simp [plc, h]
theorem plc_no {s l : ByteArray} {q : Nat} (h : oc s l q = false) : plc s l (q + 1) = plc s l q := by
  rw [plc, List.range_succ, List.filter_append, List.map_append]; simp [plc, h]
theorem plc_len (s l : ByteArray) (q : Nat) : (plc s l q).length ≤ q := by
  rw [plc, List.length_map]
  exact Nat.le_trans (List.length_filter_le _ _) (by rw [List.length_range]; exact Nat.le_refl _)
theorem isEmpty_eq (s : ByteArray) : s.toList.isEmpty = decide (s = ⟨#[]⟩) := by
  rw [← str_eq, show (⟨#[]⟩ : ByteArray).toList = [] by rw [ByteArray.toList_eq]]
  cases s.toList <;> rfl

set_option maxRecDepth 100000 in
set_option maxHeartbeats 1000000 in
theorem specPlaces_any (s l : ByteArray) (w : World) (hs : s.size ≤ 1048576) (hl : l.size ≤ 1048576) (hne : l ≠ ⟨#[]⟩) :
    Calls Try.prog 146 #[.string s, .string l] w (MadeSl w 3 1 (plc s l (s.size + 1 - l.size)).length (ints (plc s l (s.size + 1 - l.size)))) := by
  have hq := isEmpty_eq l
  rw [decide_eq_false hne] at hq
  have hO0 := own_of_bk (base := w.heap.size) (m := 1) (n := 0) (Bk.new w 3 #[]) (Nat.le_refl _) rfl (by unfold maxLen; omega)
  have hW0 : Below w.heap.size w (w.alloc (.cells #[] 3)) := (Below.refl _ _).alloc (Nat.le_refl _) _
  obtain ⟨N, hN⟩ : ∃ N, N = s.size + 1 - l.size := ⟨_, rfl⟩
  rw [← hN]
  have HO0 := Lib.hid hO0
  clear hO0
  have HW0 := Lib.hid hW0
  clear hW0
  have HN := Lib.hid hN
  clear hN
  go_enter Try.func146, Try.ntmps146
  go_wp2_with fail
  go_loopw [5, 6] (fun v i wr => ∃ (q : Nat) (B : Option Addr) (d z : Nat), q ≤ N ∧ i = .int .i64 q ∧ v = .slice B z d ∧ Hid (z = (plc s l q).length) ∧ wr.ownsRow w.heap.size 3 1 (.slice B z d) z (ints (plc s l q)) ∧ Below w.heap.size w wr) (fun _ i _ => N - (intOf i).toNat)
  case atStart => exact ⟨0, _, _, 0, Nat.zero_le _, rfl, rfl, Lib.hid rfl, HO0.out, HW0.out⟩
  case round =>
    clear HO0 HW0
    obtain ⟨q, B, d, z, hqN, rfl, rfl, HZ, hown, hW⟩ := hrel
    have hz : z ≤ q := by rw [HZ.out]; exact plc_len s l q
    have hN' := HN.out
    by_cases hlt : q < N
    · have hr : q + l.size ≤ s.size := by omega
      have hri : (q : Int) + (l.size : Int) ≤ (s.size : Int) := by omega
      have hsum : IntKind.i64.wrap ((q : Int) + (l.size : Int)) = (q : Int) + (l.size : Int) := IntWalk.i64_in _ ⟨by omega, by omega⟩
      have g4 : (0 : Int) ≤ (q : Int) + (l.size : Int) := by omega
      have g5 : ((q : Int) + (l.size : Int)).toNat = q + l.size := by omega
      have g7 : (q : Int) ≤ (q : Int) + (l.size : Int) := by omega
      have hws := hW.size
      cases h5 : (s.extract q (q + l.size)).toList == l.toList
      · have e1 := plc_no (s := s) (l := l) (q := q) h5
        clear hN'
        have E1 := Lib.hid e1
        clear e1
        go_wp2_with fail
        go_roundw
        case rel => exact ⟨q + 1, B, d, z, by omega, by go_num, rfl, Lib.hid (by rw [E1.out]; exact HZ.out), by rw [E1.out]; exact hown, hW⟩
        case measure => simp [intOf] <;> omega
      · have e1 := plc_yes (s := s) (l := l) (q := q) h5
        clear hN'
        have E1 := Lib.hid e1
        clear e1
        go_wp2_with (at_builtin; refine wpList_app1 _ _ rfl _ _ 60 rfl w.heap.size 3 1 8 _ Try.underlying60 info_int rfl (by omega) _ _ _ _ rfl rfl rfl hown rfl (one_cell1 _) (by omega) (by unfold maxLen; omega) (by omega) ?_; intro A5 c5 w5 hO5 hW5)
        have hO6 : w5.ownsRow w.heap.size 3 1 (.slice A5 (z + 1) c5) (z + 1) (ints (plc s l (q + 1))) := by rw [E1.out, ints_snoc]; exact hO5
        clear hO5
        go_wp2_with fail
        go_roundw
        case rel => exact ⟨q + 1, A5, c5, z + 1, by omega, by go_num, rfl, Lib.hid (by rw [E1.out, List.length_append, ← HZ.out]; rfl), hO6, hW.trans hW5⟩
        case measure => simp [intOf] <;> omega
    · have : q = N := by omega
      subst this
      have hr : ¬ (q + l.size ≤ s.size) := by omega
      have hri : ¬ ((q : Int) + (l.size : Int) ≤ (s.size : Int)) := by omega
      have hsum : IntKind.i64.wrap ((q : Int) + (l.size : Int)) = (q : Int) + (l.size : Int) := IntWalk.i64_in _ ⟨by omega, by omega⟩
      clear hN'
      go_wp2_with fail
      go_ret
      rw [← HZ.out]
      exact ⟨B, d, rfl, hown, hW⟩

end Go.Proofs.Ytnlagiopmkjmlaa
