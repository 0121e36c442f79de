/- Plain words for ParseInt at the first word of a tag system: IsDigits, what the number may be. -/


import Derived.Test.YtgceabbeeobmgaaDoorFmtN
import Derived.Test.YtgceabbeeobmgaaDoorWord
namespace Go.Proofs.YtgceabbeeobmgaaDoor

open Go.RowKit Go.Shelf

/-- The number that is handed back is the digit's where the text is a digit from 1 to 4, and only there one of 1 to 4. -/
def PiOk (u : ByteArray) (n : Int) (ok : Bool) : Prop := (ok = true → 1 ≤ n → n ≤ 4 → u = dig n) ∧ (∀ k : Int, 1 ≤ k → k ≤ 4 → u = dig k → n = k ∧ ok = true) ∧ (ok = false → n = 0)
def PiMade (u : ByteArray) (w : World) (e : Ending) (w' : World) : Prop := ∃ n ok, e = .returned (.tuple #[.int .i64 n, .bool ok]) ∧ PiOk u n ok ∧ -9223372036854775808 ≤ n ∧ n ≤ 9223372036854775807 ∧ Below w.heap.size w w'
theorem pi_fail {u : ByteArray} (h : ∀ k : Int, 1 ≤ k → k ≤ 4 → u ≠ dig k) : PiOk u 0 false := ⟨(fun h => Bool.noConfusion h), fun k h1 h4 e => absurd e (h k h1 h4), fun _ => rfl⟩
theorem dig_byte {k : Int} (h1 : 1 ≤ k) (h4 : k ≤ 4) : ((dig k)[0]'(by rw [dig_size]; omega)).toNat = (48 + k).toNat := by
  have : k = 1 ∨ k = 2 ∨ k = 3 ∨ k = 4 := by omega
  rcases this with rfl | rfl | rfl | rfl <;> rfl
theorem dig_inj {k m : Int} (h1 : 1 ≤ k) (h4 : k ≤ 4) (h5 : 1 ≤ m) (h6 : m ≤ 4) (h : dig k = dig m) : k = m := by
  have a := dig_byte h1 h4
  have b := dig_byte h5 h6
  simp only [h] at a
  omega
def isDg (s : ByteArray) : Bool := s.data.toList.all (fun b => inB b.toNat 48 57) && decide (0 < s.size)
theorem isDg_dig {k : Int} (h1 : 1 ≤ k) (h4 : k ≤ 4) : isDg (dig k) = true := by
  have : k = 1 ∨ k = 2 ∨ k = 3 ∨ k = 4 := by omega
  rcases this with rfl | rfl | rfl | rfl <;> rfl
theorem isDg_get {s : ByteArray} (h : isDg s = true) {j : Nat} (hj : j < s.size) : 48 ≤ (s[j].toNat : Int) ∧ (s[j].toNat : Int) ≤ 57 := by
  unfold isDg at h
  rw [Bool.and_eq_true, List.all_eq_true] at h
  have h2 := h.1 s[j] (by
    have hj' : j < s.data.toList.length := by rw [bytes_len]; exact hj
    rw [byte_get s j hj, List.getD_eq_getElem?_getD, List.getElem?_eq_getElem hj']
    exact List.getElem_mem hj')
  unfold inB at h2
  simp only [Bool.and_eq_true, decide_eq_true_eq] at h2
  exact h2

theorem specFmt_any : ∀ (k : Nat) (x : Int), x.natAbs ≤ k → -9223372036854775808 ≤ x → x ≤ 9223372036854775807 → ∀ w : World, Calls Tryd.prog 41 #[.int .i64 x] w (FmtSome w x)
  | 0, x, hk, h0, h1, w => specFmt_pos x w (by omega) h1
  | k + 1, x, hk, h0, h1, w => by
    by_cases hx : 0 ≤ x
    · exact specFmt_pos x w hx h1
    · exact specFmt_neg x w (by omega) h0 (fun W => specFmt_any k _ (by omega) (by omega) (by omega) W)

set_option maxRecDepth 100000 in
set_option maxHeartbeats 1000000 in
theorem isDigits_any (s : ByteArray) (w : World) (hs : s.size ≤ 1048576) :
    Calls Tryd.prog 72 #[.string s] w fun e w' => e = .returned (.bool (isDg s)) ∧ w = w' := by
  go_enter Tryd.func72, Tryd.ntmps72
  go_wp2_with fail
  go_loop [3] (fun i => ∃ (j : Nat), j ≤ s.size ∧ i = .int .i64 j ∧ Hid ((s.data.toList.take j).all (fun b => inB b.toNat 48 57) = true)) (fun i => s.size - (intOf i).toNat)
  case atStart => exact ⟨0, Nat.zero_le _, rfl, by simp [Hid]⟩
  case round =>
    obtain ⟨j, hj, rfl, HA⟩ := hrel
    by_cases hlt : j < s.size
    · have h256 : s[j].toNat < 256 := s[j].toNat_lt
      have hlt' : j < s.data.toList.length := by rw [bytes_len]; exact hlt
      have hv := byte_get s j hlt
      have Hv := Lib.hid hv
      clear hv
      have Hlt' := Lib.hid hlt'
      clear hlt'
      by_cases c1 : (s[j].toNat : Int) < 48
      · go_wp2_with fail
        go_ret
        exact ⟨ret_bool (by rw [isDg, all_miss (Hlt'.out) Hv.out (by simp [inB]; omega)]; rfl), rfl⟩
      · by_cases c2 : 57 < (s[j].toNat : Int)
        · go_wp2_with fail
          go_ret
          exact ⟨ret_bool (by rw [isDg, all_miss (Hlt'.out) Hv.out (by simp [inB]; omega)]; rfl), rfl⟩
        · go_wp2_with fail
          go_round
          case rel => exact ⟨j + 1, by omega, by go_num, all_snoc (Hlt'.out) HA.out Hv.out (by simp [inB]; omega)⟩
          case measure => simp [intOf] <;> omega
    · have : j = s.size := by omega
      subst this
      have hall : s.data.toList.all (fun b => inB b.toNat 48 57) = true := by
        have := HA.out
        rwa [List.take_of_length_le (by rw [bytes_len]; omega)] at this
      by_cases h0 : 0 < s.size
      · have e1 : isDg s = true := by rw [isDg, hall, decide_eq_true h0]; rfl
        have Hall := Lib.hid hall
        clear hall
        have E1 := Lib.hid e1
        clear e1
        go_wp2_with fail
        go_ret
        exact ⟨ret_bool (by rw [E1.out]), rfl⟩
      · have e1 : isDg s = false := by rw [isDg, hall, decide_eq_false h0]; rfl
        have Hall := Lib.hid hall
        clear hall
        have E1 := Lib.hid e1
        clear e1
        go_wp2_with fail
        go_ret
        exact ⟨ret_bool (by rw [E1.out]), rfl⟩

end Go.Proofs.YtgceabbeeobmgaaDoor
