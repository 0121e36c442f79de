/- FormatInt of the reference at every int: it hands back some text, and at a digit the digit. -/

import Derived.Test.YtgceabbeeobmgaaDoorFmtTagS
namespace Go.Proofs.YtgceabbeeobmgaaDoor

open Go.RowKit Go.Shelf

def FmtSome (w : World) (x : Int) (e : Ending) (w' : World) : Prop := ∃ r : ByteArray, e = .returned (.string r) ∧ r.size ≤ x.natAbs + 2 ∧ (0 ≤ x → x ≤ 9 → r = dig x) ∧ Below w.heap.size w w'

theorem conv_cell (W : World) (b : Nat) (v : Int) (h : W.cell? ⟨b, 0, none⟩ = some (.int .u8 v)) :
    (convert 22 9 (.slice (some ⟨b, 0, none⟩) 1 1)).run Tryd.prog W = .ok (.string ⟨#[UInt8.ofNat v.toNat]⟩) W := by
  rw [run_convert_bytes_string _ _ _ _ _ _ _ Tryd.underlying22 Tryd.underlying5 Tryd.underlying9]
  rw [run_bytesToString _ _ _ _ [v] ?_]
  · rfl
  · simp [loadCells, loadCellsFrom, go_sem, h]

set_option maxRecDepth 100000 in
set_option maxHeartbeats 2000000 in
theorem specFmt_pos (x : Int) (w : World) (h0 : 0 ≤ x) (h1 : x ≤ 9223372036854775807) : Calls Tryd.prog 41 #[.int .i64 x] w (FmtSome w x) := by
  by_cases h9 : x ≤ 9
  · refine (specDigit_any x w h0 h9).mono fun e w' ⟨he, hb⟩ => ⟨dig x, he, ?_, fun _ _ => rfl, hb⟩
    have := dig_size x
    omega
  have hn0 : ¬ x < 0 := by omega
  have hB0 := Below.refl w.heap.size w
  have HB0 := Lib.hid hB0
  clear hB0
  go_enter Tryd.func41, Tryd.ntmps41
  go_wp2_with fail
  go_loopw [0, 3] (fun v s wr => ∃ (m : Int) (cur : ByteArray), v = .int .i64 m ∧ s = .string cur ∧ 0 ≤ m ∧ m ≤ x ∧ 9 * (cur.size : Int) + m ≤ x ∧ Below w.heap.size w wr) (fun v _ _ => (intOf v).toNat)
  case atStart => exact ⟨x, ⟨#[]⟩, rfl, rfl, h0, Int.le_refl _, by show 9 * ((0 : Nat) : Int) + x ≤ x; omega, HB0.out⟩
  case round =>
    obtain ⟨m, cur, rfl, rfl, hm0, hmx, hcz, hW⟩ := hrel
    have hcv := conv_byte wr (48 + m % 10)
    have hq : m.tdiv 10 = m / 10 := Int.tdiv_eq_ediv_of_nonneg hm0
    have hr : m.tmod 10 = m % 10 := Int.tmod_eq_emod_of_nonneg hm0
    by_cases hm9 : 9 < m
    · obtain ⟨d, hd⟩ : ∃ d, d = (⟨#[UInt8.ofNat (48 + m % 10).toNat]⟩ : ByteArray) := ⟨_, rfl⟩
      rw [← hd] at hcv
      have hdz : d.size = 1 := by rw [hd]; rfl
      have hW2 := hW.alloc hW.size (.cells #[.int .u8 (48 + m % 10)] 5)
      have Hd := Lib.hid hd
      clear hd
      have HW2 := Lib.hid hW2
      clear hW2
      go_wp2_with fail
      go_roundw
      case rel => exact ⟨m / 10, d ++ cur, rfl, rfl, by omega, by omega, by rw [ByteArray.size_append, hdz]; omega, HW2.out⟩
      case measure => simp [intOf] <;> omega
    · have hcv2 := conv_byte wr (48 + m)
      obtain ⟨d, hd⟩ : ∃ d, d = (⟨#[UInt8.ofNat (48 + m).toNat]⟩ : ByteArray) := ⟨_, rfl⟩
      rw [← hd] at hcv2
      have hdz : d.size = 1 := by rw [hd]; rfl
      have hW2 := hW.alloc hW.size (.cells #[.int .u8 (48 + m)] 5)
      clear hcv hq hr
      have Hd := Lib.hid hd
      clear hd
      have HW2 := Lib.hid hW2
      clear hW2
      go_wp2_with fail
      go_ret
      exact ⟨d ++ cur, rfl, by rw [ByteArray.size_append, hdz]; omega, fun _ h => by omega, HW2.out⟩

set_option maxRecDepth 100000 in
set_option maxHeartbeats 2000000 in
theorem specFmt_neg (x : Int) (w : World) (h0 : x < 0) (h1 : -9223372036854775808 ≤ x) (ih : ∀ (W : World), Calls Tryd.prog 41 #[.int .i64 (-((-x) / 10))] W (FmtSome W (-((-x) / 10)))) : Calls Tryd.prog 41 #[.int .i64 x] w (FmtSome w x) := by
  have hq : x.tdiv 10 = -((-x) / 10) := by
    have : x = -(-x) := by omega
    conv => lhs; rw [this]
    rw [Int.neg_tdiv, Int.tdiv_eq_ediv_of_nonneg (by omega)]
  have hr : x.tmod 10 = -((-x) % 10) := by
    have : x = -(-x) := by omega
    conv => lhs; rw [this]
    rw [Int.neg_tmod, Int.tmod_eq_emod_of_nonneg (by omega)]
  obtain ⟨q, hqe⟩ : ∃ q, q = -((-x) / 10) := ⟨_, rfl⟩
  obtain ⟨m, hme⟩ : ∃ m, m = -((-x) % 10) := ⟨_, rfl⟩
  have hq1 : x ≤ q ∧ q ≤ 0 ∧ 10 * q + m = x ∧ -9 ≤ m ∧ m ≤ 0 := by omega
  rw [← hqe] at hq ih
  rw [← hme] at hr
  obtain ⟨a1, a2, a3, a4, a5⟩ := hq1
  have Ih := Lib.hid ih
  clear ih
  have Hqe := Lib.hid hqe
  clear hqe
  have Hme := Lib.hid hme
  clear hme
  by_cases hq0 : q = 0
  · have hcv := conv_byte w (48 - x)
    obtain ⟨d, hd⟩ : ∃ d, d = (⟨#[UInt8.ofNat (48 - x).toNat]⟩ : ByteArray) := ⟨_, rfl⟩
    rw [← hd] at hcv
    have hdz : d.size = 1 := by rw [hd]; rfl
    have hW2 : Below w.heap.size w (w.alloc (.cells #[.int .u8 (48 - x)] 5)) := (Below.refl _ _).alloc (Nat.le_refl _) _
    rw [hq0] at hq
    clear hr
    have Hd := Lib.hid hd
    clear hd
    have HW2 := Lib.hid hW2
    clear hW2
    go_enter Tryd.func41, Tryd.ntmps41
    go_wp2_with fail
    go_ret
    exact ⟨(⟨#[45]⟩ : ByteArray) ++ d, rfl, by rw [ByteArray.size_append, hdz]; show 1 + 1 ≤ _; omega, fun h => by omega, HW2.out⟩
  · have hqn : (q == 0) = false := by simp; exact hq0
    have hcv : ∀ W : World, (convert 22 9 (.slice (some ⟨W.heap.size, 0, none⟩) 1 1)).run Tryd.prog (W.alloc (.cells #[.int .u8 (48 - m)] 5)) = .ok (.string ⟨#[UInt8.ofNat (48 - m).toNat]⟩) (W.alloc (.cells #[.int .u8 (48 - m)] 5)) := fun W => conv_byte W (48 - m)
    obtain ⟨d, hd⟩ : ∃ d, d = (⟨#[UInt8.ofNat (48 - m).toNat]⟩ : ByteArray) := ⟨_, rfl⟩
    rw [← hd] at hcv
    have hdz : d.size = 1 := by rw [hd]; rfl
    have hw1 : IntKind.i64.wrap (48 - m) = 48 - m := IntWalk.i64_in _ ⟨by omega, by omega⟩
    have hw2 : IntKind.i64.wrap q = q := IntWalk.i64_in _ ⟨by omega, by omega⟩
    have hw3 : IntKind.u8.wrap (48 - m) = 48 - m := by
      have : m = 0 ∨ m = -1 ∨ m = -2 ∨ m = -3 ∨ m = -4 ∨ m = -5 ∨ m = -6 ∨ m = -7 ∨ m = -8 ∨ m = -9 := by omega
      rcases this with h | h | h | h | h | h | h | h | h | h <;> rw [h] <;> rfl
    have hA : ∀ y1 : World, Below (w.alloc (.cells #[.int .u8 (48 - m)] 5)).drew.heap.size (w.alloc (.cells #[.int .u8 (48 - m)] 5)).drew y1 → (convert 22 9 (.slice (some ⟨w.heap.size, 0, none⟩) 1 1)).run Tryd.prog y1 = .ok (.string d) y1 := fun y1 b1 => by
      rw [conv_cell y1 w.heap.size (48 - m), hd]
      refine (b1.cell (p := ⟨w.heap.size, 0, none⟩) ?_).trans ?_
      · show w.heap.size < (w.alloc _).heap.size
        simp
      · rw [((Bk.new w 5 #[.int .u8 (48 - m)]).drew).cell 0]; rfl
    have hB : ∀ y1 : World, Below (w.drew.alloc (.cells #[.int .u8 (48 - m)] 5)).heap.size (w.drew.alloc (.cells #[.int .u8 (48 - m)] 5)) y1 → (convert 22 9 (.slice (some ⟨w.heap.size, 0, none⟩) 1 1)).run Tryd.prog y1 = .ok (.string d) y1 := hA
    have hcv2 : (convert 22 9 (.slice (some ⟨w.heap.size, 0, none⟩) 1 1)).run Tryd.prog (w.alloc (.cells #[.int .u8 (48 - m)] 5)).drew = .ok (.string d) (w.alloc (.cells #[.int .u8 (48 - m)] 5)).drew := hA _ (Below.refl _ _)
    have Hd := Lib.hid hd
    clear hd
    have HA := Lib.hid hA
    clear hA
    have HB := Lib.hid hB
    clear hB
    go_enter Tryd.func41, Tryd.ntmps41
    go_wp2_with fail
    go_region_law (first | (go_simp; ((with_reducible refine (Ih.out _).mono ?_); rintro e y1 ⟨r, rfl, hrz, -, b1⟩; have hsz : ¬ 9223372036854775807 < r.size + 1 := (by omega); first | (have hcy := HA.out _ b1) | (have hcy := HB.out _ b1) | skip)))
    all_goals
      go_wp2_with fail
      go_ret
      exact ⟨r ++ d, rfl, by rw [ByteArray.size_append, hdz]; omega, fun h => by omega, by first | exact ((Below.refl _ _).drew.trans (b1.mono (Nat.le_refl _))).alloc b1.size _ | exact (((Below.refl _ _).alloc (Nat.le_refl _) _).drew.trans (b1.mono (by simp)))⟩

end Go.Proofs.YtgceabbeeobmgaaDoor
