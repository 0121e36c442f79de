/- Merged texts: a claim has a limit of files. -/
import Derived.Test.YtnlagiopmkjmlaaMg6
import Derived.Test.YtnlagiopmkjmlaaTurn
import Derived.Lib.SliceRun
import Derived.Test.YtnlagiopmkjmlaaMg3
import Derived.Test.YtnlagiopmkjmlaaMark
import Derived.Lib.IndexMore

/- clear of a slice whose elements have several cells; a row of the call's own cut short. No program, no condition. -/
namespace Go.Proofs.Ytnlagiopmkjmlaa
open Go.RowKit Go.Shelf

theorem zero_mem {z : Array Value} {n : Nat} : ∀ u ∈ (Builtin.zeroCells z n).toList, u ∈ z.toList := fun u hu => by
  unfold Builtin.zeroCells at hu
  rw [Array.mem_toList_iff] at hu
  obtain ⟨i, hi, rfl⟩ := Array.mem_map.1 hu
  rw [Array.mem_range] at hi
  have h0 : 0 < z.size := by
    rcases Nat.eq_zero_or_pos z.size with h | h
    · rw [h] at hi; omega
    · exact h
  have hm : i % z.size < z.size := Nat.mod_lt _ h0
  rw [getElem!_pos z _ hm, Array.mem_toList_iff]
  exact Array.getElem_mem hm
theorem run_clear_wide {P : Program} (w : World) (t e ty : TypeId) (z : Value) (k : Nat) (ht : P.underlying t = some (.slice e)) (hv : ∀ w, (zeroValue e).run P w = .ok z w) (hz : z.cells.size = k) (h1 : ∀ u ∈ z.cells.toList, u.oneCell' = true) (b o n c : Nat) (hn : 0 < n)
    (hc : ∀ j, j < n * k → (w.cell? ⟨b, o + j, none⟩).isSome = true) (hf : ∀ j, j < n * k → w.frozen? ⟨b, o + j, none⟩ = false) :
    (Builtin.clear_ #[t] ty #[.slice (some ⟨b, o, none⟩) n c]).run P w = .ok (.tuple #[]) (w.setCells b o (Builtin.zeroCells z.cells n).toList) := by
  have hl : (Builtin.zeroCells z.cells n).toList.length = n * k := by rw [Array.length_toList, size_zeroCells, hz]
  have hst := run_storeCells_cells (P := P) b o (Builtin.zeroCells z.cells n).toList 0 w (by rw [hl]; simpa using hc) (by rw [hl]; simpa using hf) (fun v hv' => h1 v (zero_mem v hv'))
  simp only [Nat.add_zero] at hst
  obtain ⟨m, rfl⟩ : ∃ m, n = m + 1 := ⟨n - 1, by omega⟩
  simp [Builtin.clear_, run_underlying ht, hv, hst]
theorem own_setCells {base : Nat} {e : TypeId} {size g n cap : Nat} : ∀ (vs : List Value) (o : Nat) (w : World) (xs : List Value), w.ownsRow base e size (.slice (some ⟨g, 0, none⟩) n cap) n xs → ∃ ys, (w.setCells g o vs).ownsRow base e size (.slice (some ⟨g, 0, none⟩) n cap) n ys ∧ ys.take o = xs.take o ∧ w.grownBy (w.setCells g o vs) (some g)
  | [], o, w, xs, h => ⟨xs, h, rfl, grown_refl _ _⟩
  | v :: vs, o, w, xs, h => by
    have s := h.stored o v
    obtain ⟨ys, h1, h2, h3⟩ := own_setCells vs (o + 1) _ _ s.1
    refine ⟨ys, h1, ?_, grown_trans s.2 h3⟩
    have h4 := congrArg (List.take o) h2
    rw [List.take_take, List.take_take, Nat.min_eq_left (by omega)] at h4
    rw [h4, List.take_set_of_le (Nat.le_refl _)]
theorem own_short {w : World} {base : Nat} {e : TypeId} {size : Nat} {A : Option Addr} {n cap : Nat} {xs : List Value} (h : w.ownsRow base e size (.slice A n cap) n xs) {i : Nat} (hi : i ≤ n) : w.ownsRow base e size (.slice A i cap) i (xs.take (i * size)) := by
  have him : i * size ≤ n * size := Nat.mul_le_mul_right _ hi
  refine ⟨by rw [List.length_take, h.1]; omega, ?_⟩
  rcases h.2 with ⟨hv, h0⟩ | ⟨g, c, cur, hv, hb, hh, hc, hm, hs, hx⟩
  · subst h0
    obtain rfl : i = 0 := by omega
    injection hv with h1 h2 h3
    exact .inl ⟨by rw [h1, h3], rfl⟩
  · injection hv with h1 h2 h3
    subst h1 h3
    refine .inr ⟨g, cap, cur, rfl, hb, hh, by omega, hm, hs, ?_⟩
    rw [← hx, List.take_take, Nat.min_eq_left him]
theorem own_setCells_short {base : Nat} {e : TypeId} {size g n cap : Nat} {w : World} {xs : List Value} (h : w.ownsRow base e size (.slice (some ⟨g, 0, none⟩) n cap) n xs) {i : Nat} (hi : i ≤ n) (vs : List Value) : (w.setCells g (i * size) vs).ownsRow base e size (.slice (some ⟨g, 0, none⟩) i cap) i (xs.take (i * size)) ∧ w.grownBy (w.setCells g (i * size) vs) (some g) := by
  obtain ⟨ys, h1, h2, h3⟩ := own_setCells vs (i * size) w xs h
  rw [← h2]
  exact ⟨own_short h1 hi, h3⟩

end Go.Proofs.Ytnlagiopmkjmlaa

/- Walk over PlacesOf of the reference, and its plain words. -/
namespace Go.Proofs.Ytnlagiopmkjmlaa
open Go.RowKit Go.Shelf

/-- The word s has the part l at place i. -/
def oc (s l : ByteArray) (i : Nat) : Bool := (s.extract i (i + l.size)).toList == l.toList
theorem oc_occ {s l : ByteArray} {i : Nat} (h : i + l.size ≤ s.size) : oc s l i = Lib.occAt s.data.toList l.data.toList i := by
  rw [Lib.occAt_iff_take _ _ _ h, oc, ByteArray.toList_eq, ByteArray.toList_eq]
  congr 1
  simp [ByteArray.data_extract, List.extract_eq_take_drop]
def plc (s l : ByteArray) (q : Nat) : List Int := ((List.range q).filter (oc s l)).map fun i : Nat => (i : Int)
theorem plc_yes {s l : ByteArray} {q : Nat} (h : oc s l q = true) : plc s l (q + 1) = plc s l q ++ [(q : Int)] := by
  rw [plc, List.range_succ, List.filter_append, List.map_append]; simp [plc, h]
theorem plc_no {s l : ByteArray} {q : Nat} (h : oc s l q = false) : plc s l (q + 1) = plc s l q := by
  rw [plc, List.range_succ, List.filter_append, List.map_append]; simp [plc, h]
theorem plc_len (s l : ByteArray) (q : Nat) : (plc s l q).length ≤ q := by
  rw [plc, List.length_map]
  exact Nat.le_trans (List.length_filter_le _ _) (by rw [List.length_range]; exact Nat.le_refl _)
theorem isEmpty_eq (s : ByteArray) : s.toList.isEmpty = decide (s = ⟨#[]⟩) := by
  rw [← str_eq, show (⟨#[]⟩ : ByteArray).toList = [] by rw [ByteArray.toList_eq]]
  cases s.toList <;> rfl

set_option maxRecDepth 100000 in
set_option maxHeartbeats 1000000 in
theorem specPlaces_any (s l : ByteArray) (w : World) (hs : s.size ≤ 1048576) (hl : l.size ≤ 1048576) (hne : l ≠ ⟨#[]⟩) :
    Calls Try.prog 146 #[.string s, .string l] w (MadeSl w 3 1 (plc s l (s.size + 1 - l.size)).length (ints (plc s l (s.size + 1 - l.size)))) := by
  have hq := isEmpty_eq l
  rw [decide_eq_false hne] at hq
  have hO0 := own_of_bk (base := w.heap.size) (m := 1) (n := 0) (Bk.new w 3 #[]) (Nat.le_refl _) rfl (by unfold maxLen; omega)
  have hW0 : Below w.heap.size w (w.alloc (.cells #[] 3)) := (Below.refl _ _).alloc (Nat.le_refl _) _
  obtain ⟨N, hN⟩ : ∃ N, N = s.size + 1 - l.size := ⟨_, rfl⟩
  rw [← hN]
  have HO0 := Lib.hid hO0
  clear hO0
  have HW0 := Lib.hid hW0
  clear hW0
  have HN := Lib.hid hN
  clear hN
  go_enter Try.func146, Try.ntmps146
  go_wp2_with fail
  go_loopw [5, 6] (fun v i wr => ∃ (q : Nat) (B : Option Addr) (d z : Nat), q ≤ N ∧ i = .int .i64 q ∧ v = .slice B z d ∧ Hid (z = (plc s l q).length) ∧ wr.ownsRow w.heap.size 3 1 (.slice B z d) z (ints (plc s l q)) ∧ Below w.heap.size w wr) (fun _ i _ => N - (intOf i).toNat)
  case atStart => exact ⟨0, _, _, 0, Nat.zero_le _, rfl, rfl, Lib.hid rfl, HO0.out, HW0.out⟩
  case round =>
    clear HO0 HW0
    obtain ⟨q, B, d, z, hqN, rfl, rfl, HZ, hown, hW⟩ := hrel
    have hz : z ≤ q := by rw [HZ.out]; exact plc_len s l q
    have hN' := HN.out
    by_cases hlt : q < N
    · have hr : q + l.size ≤ s.size := by omega
      have hri : (q : Int) + (l.size : Int) ≤ (s.size : Int) := by omega
      have hsum : IntKind.i64.wrap ((q : Int) + (l.size : Int)) = (q : Int) + (l.size : Int) := IntWalk.i64_in _ ⟨by omega, by omega⟩
      have g4 : (0 : Int) ≤ (q : Int) + (l.size : Int) := by omega
      have g5 : ((q : Int) + (l.size : Int)).toNat = q + l.size := by omega
      have g7 : (q : Int) ≤ (q : Int) + (l.size : Int) := by omega
      have hws := hW.size
      cases h5 : (s.extract q (q + l.size)).toList == l.toList
      · have e1 := plc_no (s := s) (l := l) (q := q) h5
        clear hN'
        have E1 := Lib.hid e1
        clear e1
        go_wp2_with fail
        go_roundw
        case rel => exact ⟨q + 1, B, d, z, by omega, by go_num, rfl, Lib.hid (by rw [E1.out]; exact HZ.out), by rw [E1.out]; exact hown, hW⟩
        case measure => simp [intOf] <;> omega
      · have e1 := plc_yes (s := s) (l := l) (q := q) h5
        clear hN'
        have E1 := Lib.hid e1
        clear e1
        go_wp2_with (at_builtin; refine wpList_app1 _ _ rfl _ _ 60 rfl w.heap.size 3 1 8 _ Try.underlying60 info_int rfl (by omega) _ _ _ _ rfl rfl rfl hown rfl (one_cell1 _) (by omega) (by unfold maxLen; omega) (by omega) ?_; intro A5 c5 w5 hO5 hW5)
        have hO6 : w5.ownsRow w.heap.size 3 1 (.slice A5 (z + 1) c5) (z + 1) (ints (plc s l (q + 1))) := by rw [E1.out, ints_snoc]; exact hO5
        clear hO5
        go_wp2_with fail
        go_roundw
        case rel => exact ⟨q + 1, A5, c5, z + 1, by omega, by go_num, rfl, Lib.hid (by rw [E1.out, List.length_append, ← HZ.out]; rfl), hO6, hW.trans hW5⟩
        case measure => simp [intOf] <;> omega
    · have : q = N := by omega
      subst this
      have hr : ¬ (q + l.size ≤ s.size) := by omega
      have hri : ¬ ((q : Int) + (l.size : Int) ≤ (s.size : Int)) := by omega
      have hsum : IntKind.i64.wrap ((q : Int) + (l.size : Int)) = (q : Int) + (l.size : Int) := IntWalk.i64_in _ ⟨by omega, by omega⟩
      clear hN'
      go_wp2_with fail
      go_ret
      rw [← HZ.out]
      exact ⟨B, d, rfl, hown, hW⟩

end Go.Proofs.Ytnlagiopmkjmlaa
