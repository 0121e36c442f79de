/- Walks over WordOk (the program's and the reference's) and hasLetters, and over the weight of a word: each returns what wordOk and wsum say, for all arguments. -/

import Derived.Test.YtgceabbeeobmgaaDoorWts
import Derived.Test.YtgceabbeeobmgaaDoorApp
namespace Go.Proofs.YtgceabbeeobmgaaDoor

open Go.RowKit Go.Shelf

/-- The letters of s are among the first k. -/
def lettersOk (k : Int) (s : ByteArray) : Bool := s.data.toList.all (fun b => inB b.toNat 97 (96 + k))
/-- WordOk, in plain words. -/
def wordOk (k : Int) (s : ByteArray) : Bool := inB k 1 4 && decide (s.size ≤ 16) && lettersOk k s

theorem bytes_len (s : ByteArray) : s.data.toList.length = s.size := by rw [Array.length_toList]; rfl
theorem byte_get (s : ByteArray) (j : Nat) (h : j < s.size) : s[j] = s.data.toList.getD j 0 := by
  have h' : j < s.data.toList.length := by rw [bytes_len]; exact h
  rw [List.getD_eq_getElem?_getD, List.getElem?_eq_getElem h']
  rfl

set_option maxRecDepth 100000 in
set_option maxHeartbeats 400000 in
theorem hasLetters_any (k : Int) (s : ByteArray) (w : World) (h1 : 1 ≤ k) (h2 : k ≤ 4) (hs : s.size ≤ 9223372036854775807) :
    Calls Tryd.prog 62 #[.int .i64 k, .string s] w fun e w' => e = .returned (.bool (lettersOk k s)) ∧ w = w' := by
  go_enter Tryd.func62, Tryd.ntmps62
  go_wp2_with fail
  go_loop [8] (fun i => ∃ (j : Nat), j ≤ s.size ∧ i = .int .i64 j ∧ Hid ((s.data.toList.take j).all (fun b => inB b.toNat 97 (96 + k)) = true)) (fun i => s.size - (intOf i).toNat)
  case atStart => exact ⟨0, Nat.zero_le _, rfl, by simp [Hid]⟩
  case round =>
    obtain ⟨j, hj, rfl, HA⟩ := hrel
    by_cases hlt : j < s.size
    · have h256 : s[j].toNat < 256 := s[j].toNat_lt
      have hlt' : j < s.data.toList.length := by rw [bytes_len]; exact hlt
      have hv := byte_get s j hlt
      have Hv := Lib.hid hv
      clear hv
      have Hlt' := Lib.hid hlt'
      clear hlt'
      go_wp2_with fail
      refine (within_any (s[j].toNat : Int) 97 (97 + k - 1) _).mono ?_
      rintro e w' ⟨rfl, rfl⟩
      obtain ⟨r, hrr⟩ : ∃ r, r = inB (s[j].toNat : Int) 97 (97 + k - 1) := ⟨_, rfl⟩
      rw [← hrr]
      have HR : Hid ((fun b : UInt8 => inB b.toNat 97 (96 + k)) s[j] = r) := by
        unfold Hid
        rw [hrr, show (97 + k - 1) = 96 + k from by omega]
      clear hrr
      cases r
      · go_wp2_with fail
        go_ret
        exact ⟨ret_bool (by rw [lettersOk, all_miss (Hlt'.out) Hv.out HR.out]), rfl⟩
      · go_wp2_with fail
        go_round
        case rel => exact ⟨j + 1, by omega, by go_num, all_snoc (Hlt'.out) HA.out Hv.out HR.out⟩
        case measure => simp [intOf]; omega
    · have : j = s.size := by omega
      subst this
      go_wp2_with fail
      go_ret
      exact ⟨ret_bool (by have := HA.out; rw [List.take_of_length_le (by rw [bytes_len]; omega)] at this; rw [lettersOk, this]), rfl⟩

set_option maxRecDepth 100000 in
set_option maxHeartbeats 400000 in
theorem implWord_any (k : Int) (s : ByteArray) (w : World) (hs : s.size ≤ 9223372036854775807) :
    Calls Tryd.prog 34 #[.int .i64 k, .string s] w fun e w' => e = .returned (.bool (wordOk k s)) ∧ w = w' := by
  go_enter Tryd.func34, Tryd.ntmps34
  go_wp2_with fail
  refine (within_any k 1 4 _).mono ?_
  rintro e w' ⟨rfl, rfl⟩
  obtain ⟨r1, hrr⟩ : ∃ r', r' = (inB k 1 4) := ⟨_, rfl⟩
  rw [← hrr]
  have H1 := Lib.hid hrr
  clear hrr
  cases r1
  · go_wp2_with fail
    go_ret
    exact ⟨ret_bool (by rw [wordOk, ← H1.out]; rfl), rfl⟩
  · obtain ⟨hm1, hm2⟩ := inB_out H1.out
    by_cases hl : s.size ≤ 16
    · skip
      go_wp2_with fail
      refine (hasLetters_any k s _ hm1 hm2 hs).mono ?_
      rintro e w' ⟨rfl, rfl⟩
      obtain ⟨r2, hrr⟩ : ∃ r', r' = (lettersOk k s) := ⟨_, rfl⟩
      rw [← hrr]
      have H2 := Lib.hid hrr
      clear hrr
      go_wp2_with fail
      go_ret
      exact ⟨ret_bool (by rw [H2.out, wordOk, ← H1.out, decide_eq_true hl]; rfl), rfl⟩
    · go_wp2_with fail
      go_ret
      exact ⟨ret_bool (by rw [wordOk, ← H1.out, decide_eq_false hl]; rfl), rfl⟩

end Go.Proofs.YtgceabbeeobmgaaDoor
