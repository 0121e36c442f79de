/- Walk over ParseInt of the reference. -/

import Derived.Test.YtgceabbeeobmgaaDoorPiP
namespace Go.Proofs.YtgceabbeeobmgaaDoor

open Go.RowKit Go.Shelf

theorem beq_ba {a b : ByteArray} (h : (a.toList == b.toList) = true) : a = b := by
  have h2 := eq_of_beq h
  rw [Lib.toList_data, Lib.toList_data] at h2
  exact ba_eq h2

set_option maxRecDepth 100000 in
set_option maxHeartbeats 4000000 in
theorem specParseInt_any (u : ByteArray) (w : World) (hs : u.size ≤ 1048576) : Calls Tryd.prog 50 #[.string u] w (PiMade u w) := by
  go_enter Tryd.func50, Tryd.ntmps50
  obtain ⟨neg, hneg⟩ : ∃ b : Bool, b = (decide (0 < u.size) && decide (u.data.toList.getD 0 0 = 45)) := ⟨_, rfl⟩
  obtain ⟨t, ht⟩ : ∃ t : ByteArray, t = if neg then u.extract 1 u.size else u := ⟨_, rfl⟩
  have htz : t.size ≤ u.size := by
    rw [ht]
    split
    · simp
    · exact Nat.le_refl _
  have hdig : ∀ k : Int, 1 ≤ k → k ≤ 4 → u = dig k → neg = false ∧ t = u := fun k h1 h4 e => by
    have hn : neg = false := by
      have : k = 1 ∨ k = 2 ∨ k = 3 ∨ k = 4 := by omega
      rw [hneg, e]
      rcases this with rfl | rfl | rfl | rfl <;> rfl
    exact ⟨hn, by rw [ht, hn]; rfl⟩
  have hcase : (u.size = 0 ∧ neg = false ∧ t = u) ∨ (∃ h : 0 < u.size, (u[0].toNat : Int) ≠ 45 ∧ neg = false ∧ t = u) ∨ (∃ h : 0 < u.size, (u[0].toNat : Int) = 45 ∧ neg = true ∧ t = u.extract 1 u.size) := by
    by_cases h0 : 0 < u.size
    · have hb := byte_get u 0 h0
      by_cases h45 : (u[0].toNat : Int) = 45
      · have e : u[0] = 45 := UInt8.toNat_inj.1 (by have : (45 : UInt8).toNat = 45 := rfl; omega)
        have hn : neg = true := by rw [hneg, ← hb, e, decide_eq_true h0]; rfl
        exact .inr (.inr ⟨h0, h45, hn, by rw [ht, hn]; rfl⟩)
      · have hn : neg = false := by
          rw [hneg, ← hb, decide_eq_false (p := u[0] = 45) (fun e => h45 (by rw [e]; rfl)), Bool.and_false]
        exact .inr (.inl ⟨h0, h45, hn, by rw [ht, hn]; rfl⟩)
    · have hn : neg = false := by rw [hneg, decide_eq_false h0]; rfl
      exact .inl ⟨by omega, hn, by rw [ht, hn]; rfl⟩
  clear hneg ht
  have Hdig := Lib.hid hdig
  clear hdig
  rcases hcase with ⟨h0, rfl, rfl⟩ | ⟨h0, h45, rfl, rfl⟩ | ⟨h0, h45, rfl, ht⟩
  · have hf : PiOk t 0 false := pi_fail fun k h1 h4 e => by
      rw [e, dig_size] at h0
      omega
    have hng : isDg t = false := by rw [isDg, decide_eq_false (p := 0 < t.size) (by omega), Bool.and_false]
    have hB0 := Below.refl w.heap.size w
    have Hf := Lib.hid hf
    clear hf
    have Hng := Lib.hid hng
    clear hng
    have HB0 := Lib.hid hB0
    clear hB0
    go_wp2_with fail
    refine (isDigits_any t _ hs).mono ?_
    rintro e w' ⟨rfl, rfl⟩
    rw [Hng.out]
    go_wp2_with fail
    go_ret2
    exact ⟨0, false, rfl, Hf.out, by omega, by omega, HB0.out⟩
  · have hne : ((t[0].toNat : Int) == 45) = false := by simp; omega
    go_wp2_with fail
    refine (isDigits_any t _ hs).mono ?_
    rintro e w' ⟨rfl, rfl⟩
    have hB0 := Below.refl w.heap.size w
    have HB0 := Lib.hid hB0
    clear hB0
    obtain ⟨r1, hrr⟩ : ∃ r', r' = (isDg t) := ⟨_, rfl⟩
    rw [← hrr]
    have H1 := Lib.hid hrr
    clear hrr
    cases r1
    · have hf : PiOk t 0 false := pi_fail (fun k h1 h4 e => by
          have h := H1.out
          rw [e, isDg_dig h1 h4] at h
          cases h)
      have Hf := Lib.hid hf
      clear hf
      go_wp2_with fail
      go_ret2
      exact ⟨0, false, rfl, Hf.out, by omega, by omega, HB0.out⟩
    by_cases h19 : t.size ≤ 19
    rotate_left
    · have hf : PiOk t 0 false := pi_fail (fun k h1 h4 e => by
          rw [e, dig_size] at h19
          omega)
      have h19' : (19 : Int) < (t.size : Int) := by omega
      have Hf := Lib.hid hf
      clear hf
      go_wp2_with fail
      go_ret2
      exact ⟨0, false, rfl, Hf.out, by omega, by omega, HB0.out⟩
    have h19' : ¬ (19 : Int) < (t.size : Int) := by omega
    go_wp2_with fail
    go_loop [6, 7] (fun n i => ∃ (j : Nat) (acc : Int), n = .int .i64 acc ∧ i = .int .i64 j ∧ j ≤ t.size ∧ -9223372036854775808 ≤ acc ∧ acc ≤ 0 ∧ Hid ((j = 0 → acc = 0) ∧ (j = 1 → ∀ h : 0 < t.size, acc = 48 - ((t[0]'h).toNat : Int)))) (fun _ i => t.size - (intOf i).toNat)
    case atStart => exact ⟨0, 0, rfl, rfl, Nat.zero_le _, by omega, by omega, fun _ => rfl, fun h => by omega⟩
    case round =>
      obtain ⟨j, acc, rfl, rfl, hj, ha0, ha1, HI⟩ := hrel
      by_cases hlt : j < t.size
      · obtain ⟨d, hd⟩ : ∃ d : Int, (t[j].toNat : Int) = d := ⟨_, rfl⟩
        have hdg := isDg_get H1.out.symm hlt
        rw [hd] at hdg
        obtain ⟨hd1, hd2⟩ := hdg
        obtain ⟨q, hq⟩ : ∃ q : Int, q = -((9223372036854775808 - (d - 48)) / 10) := ⟨_, rfl⟩
        have hqd : (-9223372036854775808 + (d - 48)).tdiv 10 = q := by
          have : -9223372036854775808 + (d - 48) = -(9223372036854775808 - (d - 48)) := by omega
          rw [this, Int.neg_tdiv, Int.tdiv_eq_ediv_of_nonneg (by omega), hq]
        have hq2 : -9223372036854775808 + (d - 48) ≤ 10 * q := by omega
        have hq3 : q ≤ -922337203685477570 := by omega
        have hq4 : -922337203685477581 ≤ q := by omega
        have Hq := Lib.hid hq
        clear hq
        by_cases hov : acc < q
        · have hf : PiOk t 0 false := pi_fail (fun k h1 h4 e => by
              have h0 : j ≠ 0 := fun h => by (have := HI.out.1 h); omega
              rw [e, dig_size] at hlt
              omega)
          have Hf := Lib.hid hf
          clear hf
          go_wp2_with fail
          go_ret2
          exact ⟨0, false, rfl, Hf.out, by omega, by omega, HB0.out⟩
        · have hI : (j + 1 = 0 → acc * 10 - (d - 48) = 0) ∧ (j + 1 = 1 → ∀ h : 0 < t.size, acc * 10 - (d - 48) = 48 - ((t[0]'h).toNat : Int)) := by
            refine ⟨fun h => by omega, fun h h0 => ?_⟩
            have hj0 : j = 0 := by omega
            have := HI.out.1 hj0
            subst hj0
            rw [hd]
            omega
          have hI2 := hI
          clear hI
          have HI2 := Lib.hid hI2
          clear hI2
          go_wp2_with fail
          go_round
          case rel => exact ⟨j + 1, acc * 10 - (d - 48), by go_num, by go_num, by omega, by omega, by omega, HI2.out⟩
          case measure => simp [intOf] <;> omega
      · have hjt : j = t.size := by omega
        subst hjt
        have hk : ∀ k : Int, 1 ≤ k → k ≤ 4 → t = dig k → acc = -k := fun k h1 h4 e => by
          have hz1 : t.size = 1 := by rw [e]; exact dig_size k
          have h := HI.out.2 hz1 (by omega)
          have hb := dig_byte h1 h4
          have hb2 : (t[0]'(by omega)).toNat = (48 + k).toNat := by
            subst e
            exact hb
          omega
        by_cases hmin : acc = -9223372036854775808
        · have hf : PiOk t 0 false := pi_fail fun k h1 h4 e => by (have := hk k h1 h4 e); omega
          clear hk
          subst hmin
          have Hf := Lib.hid hf
          clear hf
          go_wp2_with fail
          go_ret2
          exact ⟨0, false, rfl, Hf.out, by omega, by omega, HB0.out⟩
        have hmn : (acc == -9223372036854775808) = false := by simp; exact hmin
        have Hk := Lib.hid hk
        clear hk
        go_wp2_with fail
        refine (specFmt_any (-acc).natAbs (-acc) (Nat.le_refl _) (by omega) (by omega) _).mono ?_
        rintro e w1 ⟨r, rfl, hrz, hrd, b1⟩
        cases hru : (r.toList == t.toList)
        · have hf : PiOk t 0 false := pi_fail fun k h1 h4 e => by
            have h := Hk.out k h1 h4 e
            have h2 := hrd (by omega) (by omega)
            rw [show -acc = k by omega, ← e] at h2
            rw [h2] at hru
            simp at hru
          have Hf := Lib.hid hf
          clear hf
          have Hrd := Lib.hid hrd
          clear hrd
          have Hrz := Lib.hid hrz
          clear hrz
          go_wp2_with fail
          go_ret2
          exact ⟨0, false, rfl, Hf.out, by omega, by omega, b1⟩
        · have hf : PiOk t (-acc) true := by
            refine ⟨fun _ h1 h4 => ?_, fun k h1 h4 e => ⟨by (have := Hk.out k h1 h4 e); omega, rfl⟩, fun h => by cases h⟩
            rw [← beq_ba hru]
            exact hrd (by omega) (by omega)
          have Hf := Lib.hid hf
          clear hf
          have Hrd := Lib.hid hrd
          clear hrd
          have Hrz := Lib.hid hrz
          clear hrz
          go_wp2_with fail
          go_ret2
          exact ⟨(-acc), true, rfl, Hf.out, by omega, by omega, b1⟩
  · have hzt : t.size ≤ 1048576 := by omega
    have hne : ((u[0].toNat : Int) == 45) = true := by simp; omega
    have hf2 : ∀ k : Int, 1 ≤ k → k ≤ 4 → u ≠ dig k := fun k h1 h4 e => by (have := (Hdig.out k h1 h4 e).1); cases this
    have Hf2 := Lib.hid hf2
    clear hf2
    go_wp2_with fail
    rw [← ht]
    have Ht := Lib.hid ht
    clear ht
    refine (isDigits_any t _ hzt).mono ?_
    rintro e w' ⟨rfl, rfl⟩
    have hB0 := Below.refl w.heap.size w
    have HB0 := Lib.hid hB0
    clear hB0
    obtain ⟨r1, hrr⟩ : ∃ r', r' = (isDg t) := ⟨_, rfl⟩
    rw [← hrr]
    have H1 := Lib.hid hrr
    clear hrr
    cases r1
    · have hf : PiOk u 0 false := pi_fail Hf2.out
      have Hf := Lib.hid hf
      clear hf
      go_wp2_with fail
      go_ret2
      exact ⟨0, false, rfl, Hf.out, by omega, by omega, HB0.out⟩
    by_cases h19 : t.size ≤ 19
    rotate_left
    · have hf : PiOk u 0 false := pi_fail Hf2.out
      have h19' : (19 : Int) < (t.size : Int) := by omega
      have Hf := Lib.hid hf
      clear hf
      go_wp2_with fail
      go_ret2
      exact ⟨0, false, rfl, Hf.out, by omega, by omega, HB0.out⟩
    have h19' : ¬ (19 : Int) < (t.size : Int) := by omega
    go_wp2_with fail
    go_loop [6, 7] (fun n i => ∃ (j : Nat) (acc : Int), n = .int .i64 acc ∧ i = .int .i64 j ∧ j ≤ t.size ∧ -9223372036854775808 ≤ acc ∧ acc ≤ 0 ∧ Hid ((j = 0 → acc = 0) ∧ (j = 1 → ∀ h : 0 < t.size, acc = 48 - ((t[0]'h).toNat : Int)))) (fun _ i => t.size - (intOf i).toNat)
    case atStart => exact ⟨0, 0, rfl, rfl, Nat.zero_le _, by omega, by omega, fun _ => rfl, fun h => by omega⟩
    case round =>
      obtain ⟨j, acc, rfl, rfl, hj, ha0, ha1, HI⟩ := hrel
      by_cases hlt : j < t.size
      · obtain ⟨d, hd⟩ : ∃ d : Int, (t[j].toNat : Int) = d := ⟨_, rfl⟩
        have hdg := isDg_get H1.out.symm hlt
        rw [hd] at hdg
        obtain ⟨hd1, hd2⟩ := hdg
        obtain ⟨q, hq⟩ : ∃ q : Int, q = -((9223372036854775808 - (d - 48)) / 10) := ⟨_, rfl⟩
        have hqd : (-9223372036854775808 + (d - 48)).tdiv 10 = q := by
          have : -9223372036854775808 + (d - 48) = -(9223372036854775808 - (d - 48)) := by omega
          rw [this, Int.neg_tdiv, Int.tdiv_eq_ediv_of_nonneg (by omega), hq]
        have hq2 : -9223372036854775808 + (d - 48) ≤ 10 * q := by omega
        have hq3 : q ≤ -922337203685477570 := by omega
        have hq4 : -922337203685477581 ≤ q := by omega
        have Hq := Lib.hid hq
        clear hq
        by_cases hov : acc < q
        · have hf : PiOk u 0 false := pi_fail Hf2.out
          have Hf := Lib.hid hf
          clear hf
          go_wp2_with fail
          go_ret2
          exact ⟨0, false, rfl, Hf.out, by omega, by omega, HB0.out⟩
        · have hI : (j + 1 = 0 → acc * 10 - (d - 48) = 0) ∧ (j + 1 = 1 → ∀ h : 0 < t.size, acc * 10 - (d - 48) = 48 - ((t[0]'h).toNat : Int)) := by
            refine ⟨fun h => by omega, fun h h0 => ?_⟩
            have hj0 : j = 0 := by omega
            have := HI.out.1 hj0
            subst hj0
            rw [hd]
            omega
          have hI2 := hI
          clear hI
          have HI2 := Lib.hid hI2
          clear hI2
          go_wp2_with fail
          go_round
          case rel => exact ⟨j + 1, acc * 10 - (d - 48), by go_num, by go_num, by omega, by omega, by omega, HI2.out⟩
          case measure => simp [intOf] <;> omega
      · have hjt : j = t.size := by omega
        subst hjt
        go_wp2_with fail
        refine (specFmt_any acc.natAbs acc (Nat.le_refl _) (by omega) (by omega) _).mono ?_
        rintro e w1 ⟨r, rfl, hrz, hrd, b1⟩
        cases hru : (r.toList == u.toList)
        · have hf : PiOk u 0 false := pi_fail Hf2.out
          have Hf := Lib.hid hf
          clear hf
          have Hrd := Lib.hid hrd
          clear hrd
          have Hrz := Lib.hid hrz
          clear hrz
          go_wp2_with fail
          go_ret2
          exact ⟨0, false, rfl, Hf.out, by omega, by omega, b1⟩
        · have hf : PiOk u acc true := ⟨fun _ h1 _ => by omega, fun k h1 h4 e => absurd e (Hf2.out k h1 h4), fun h => by cases h⟩
          have Hf := Lib.hid hf
          clear hf
          have Hrd := Lib.hid hrd
          clear hrd
          have Hrz := Lib.hid hrz
          clear hrz
          go_wp2_with fail
          go_ret2
          exact ⟨acc, true, rfl, Hf.out, by omega, by omega, b1⟩

end Go.Proofs.YtgceabbeeobmgaaDoor
