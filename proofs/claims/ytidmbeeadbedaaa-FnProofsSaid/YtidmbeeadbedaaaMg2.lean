/- Merged texts: a claim has a limit of files. -/
import Derived.Test.YtidmbeeadbedaaaBase
import Derived.ProofKit
import Derived.OpenShut
import Derived.ShutString
import Derived.ChangeOld
import Derived.Deep.Slices
import Derived.Deep.Fields
import Derived.Lib.SmallJoins
import Derived.Test.YtidmbeeadbedaaaMg1

/- Arguments opened: how the parameters of the laws read, as values and cells, for the rows' proofs. -/
namespace Go.Proofs.Ytidmbeeadbedaaa
open Go.ChangeShapes Go.WideShapes Go.ChangeAt Go.RowKit Go.Shelf

theorem own_knob : ownKnob Try.prog.godebug = none := by kernel_rfl
theorem laid_out : laidOutB Try.prog = true := by kernel_rfl

theorem cell_spot {w : World} {a : Addr} {v : Value} (h : w.cell? a = some v) : a = ⟨a.block, a.off, none⟩ ∧ a.block < w.heap.size := by
  refine ⟨?_, World.block_lt_of_cell? w a h⟩
  unfold World.cell? at h
  split at h
  · split at h
    · cases h
    · next hs =>
      obtain ⟨b, o, s⟩ := a
      simp at hs
      subst hs
      rfl
  · cases h

theorem rd_of_cells {w : World} {a : Addr} {xs : List Value} (h : ∀ j u, xs[j]? = some u → w.cell? (a.add j) = some u) : Rd w (some a) xs := fun hn => by
  obtain ⟨x, t, rfl⟩ := List.exists_cons_of_ne_nil hn
  have h0 := h 0 x rfl
  have e0 : a.add 0 = a := by unfold Addr.add; simp
  rw [e0] at h0
  obtain ⟨e, hl⟩ := cell_spot h0
  refine ⟨a.block, a.off, by rw [← e], hl, fun j u hu => ?_⟩
  have hj := h j u hu
  have ea : a.add j = ⟨a.block, a.off + j, none⟩ := by
    rw [e]
    unfold Addr.add
    by_cases hz : j = 0 <;> simp [hz]
  rw [ea] at hj
  exact hj

section
variable {H : Type} {enc : TypeId × Value → H} {w : World} {base : Nat} {spare : Nat → Bool} {held : Bool}
end

end Go.Proofs.Ytidmbeeadbedaaa

/- Walks over within, l01In, allWithin, slices.IndexFunc and ContainsFunc at []int, and both WeightsOk: each returns what wtsOk says, for all arguments. -/
namespace Go.Proofs.Ytidmbeeadbedaaa
open Go.RowKit Go.Shelf

set_option maxHeartbeats 400000 in
theorem l01In_any (n lo hi : Int) (w : World) :
    Calls Try.prog 128 #[.int .i64 n, .int .i64 lo, .int .i64 hi] w fun e w' => e = .returned (.bool (inB n lo hi)) ∧ w = w' := by
  unfold inB
  by_cases h1 : lo ≤ n <;> by_cases h2 : n ≤ hi
  all_goals
    go_enter Try.func128, Try.ntmps128
    go_wp2
    go_ret
    exact ⟨by simp [*], rfl⟩

set_option maxHeartbeats 400000 in
theorem within_any (n lo hi : Int) (w : World) :
    Calls Try.prog 106 #[.int .i64 n, .int .i64 lo, .int .i64 hi] w fun e w' => e = .returned (.bool (inB n lo hi)) ∧ w = w' := by
  unfold inB
  by_cases h1 : lo ≤ n <;> by_cases h2 : n ≤ hi
  all_goals
    go_enter Try.func106, Try.ntmps106
    go_wp2
    go_ret
    exact ⟨by simp [*], rfl⟩

end Go.Proofs.Ytidmbeeadbedaaa

/- Walks over WordOk (the program's and the reference's) and hasLetters, and over the weight of a word: each returns what wordOk and wsum say, for all arguments. -/
namespace Go.Proofs.Ytidmbeeadbedaaa
open Go.RowKit Go.Shelf

/-- The letters of s are among the first k. -/
def lettersOk (k : Int) (s : ByteArray) : Bool := s.data.toList.all (fun b => inB b.toNat 97 (96 + k))
/-- WordOk, in plain words. -/
def wordOk (k : Int) (s : ByteArray) : Bool := inB k 1 4 && decide (s.size ≤ 16) && lettersOk k s

theorem bytes_len (s : ByteArray) : s.data.toList.length = s.size := by rw [Array.length_toList]; rfl
theorem byte_get (s : ByteArray) (j : Nat) (h : j < s.size) : s[j] = s.data.toList.getD j 0 := by
  have h' : j < s.data.toList.length := by rw [bytes_len]; exact h
  rw [List.getD_eq_getElem?_getD, List.getElem?_eq_getElem h']
  rfl

set_option maxRecDepth 100000 in
set_option maxHeartbeats 400000 in
theorem hasLetters_any (k : Int) (s : ByteArray) (w : World) (h1 : 1 ≤ k) (h2 : k ≤ 4) (hs : s.size ≤ 9223372036854775807) :
    Calls Try.prog 147 #[.int .i64 k, .string s] w fun e w' => e = .returned (.bool (lettersOk k s)) ∧ w = w' := by
  go_enter Try.func147, Try.ntmps147
  go_wp2_with fail
  go_loop [8] (fun i => ∃ (j : Nat), j ≤ s.size ∧ i = .int .i64 j ∧ Hid ((s.data.toList.take j).all (fun b => inB b.toNat 97 (96 + k)) = true)) (fun i => s.size - (intOf i).toNat)
  case atStart => exact ⟨0, Nat.zero_le _, rfl, by simp [Hid]⟩
  case round =>
    obtain ⟨j, hj, rfl, HA⟩ := hrel
    by_cases hlt : j < s.size
    · have h256 : s[j].toNat < 256 := s[j].toNat_lt
      have hlt' : j < s.data.toList.length := by rw [bytes_len]; exact hlt
      have hv := byte_get s j hlt
      have Hv := Lib.hid hv
      clear hv
      have Hlt' := Lib.hid hlt'
      clear hlt'
      go_wp2_with fail
      refine (within_any (s[j].toNat : Int) 97 (97 + k - 1) _).mono ?_
      rintro e w' ⟨rfl, rfl⟩
      obtain ⟨r, hrr⟩ : ∃ r, r = inB (s[j].toNat : Int) 97 (97 + k - 1) := ⟨_, rfl⟩
      rw [← hrr]
      have HR : Hid ((fun b : UInt8 => inB b.toNat 97 (96 + k)) s[j] = r) := by
        unfold Hid
        rw [hrr, show (97 + k - 1) = 96 + k from by omega]
      clear hrr
      cases r
      · go_wp2_with fail
        go_ret
        exact ⟨ret_bool (by rw [lettersOk, all_miss (Hlt'.out) Hv.out HR.out]), rfl⟩
      · go_wp2_with fail
        go_round
        case rel => exact ⟨j + 1, by omega, by go_num, all_snoc (Hlt'.out) HA.out Hv.out HR.out⟩
        case measure => simp [intOf]; omega
    · have : j = s.size := by omega
      subst this
      go_wp2_with fail
      go_ret
      exact ⟨ret_bool (by have := HA.out; rw [List.take_of_length_le (by rw [bytes_len]; omega)] at this; rw [lettersOk, this]), rfl⟩

set_option maxRecDepth 100000 in
set_option maxHeartbeats 400000 in
theorem implWord_any (k : Int) (s : ByteArray) (w : World) (hs : s.size ≤ 9223372036854775807) :
    Calls Try.prog 87 #[.int .i64 k, .string s] w fun e w' => e = .returned (.bool (wordOk k s)) ∧ w = w' := by
  go_enter Try.func87, Try.ntmps87
  go_wp2_with fail
  refine (within_any k 1 4 _).mono ?_
  rintro e w' ⟨rfl, rfl⟩
  obtain ⟨r1, hrr⟩ : ∃ r', r' = (inB k 1 4) := ⟨_, rfl⟩
  rw [← hrr]
  have H1 := Lib.hid hrr
  clear hrr
  cases r1
  · go_wp2_with fail
    go_ret
    exact ⟨ret_bool (by rw [wordOk, ← H1.out]; rfl), rfl⟩
  · obtain ⟨hm1, hm2⟩ := inB_out H1.out
    by_cases hl : s.size ≤ 16
    · skip
      go_wp2_with fail
      refine (hasLetters_any k s _ hm1 hm2 hs).mono ?_
      rintro e w' ⟨rfl, rfl⟩
      obtain ⟨r2, hrr⟩ : ∃ r', r' = (lettersOk k s) := ⟨_, rfl⟩
      rw [← hrr]
      have H2 := Lib.hid hrr
      clear hrr
      go_wp2_with fail
      go_ret
      exact ⟨ret_bool (by rw [H2.out, wordOk, ← H1.out, decide_eq_true hl]; rfl), rfl⟩
    · go_wp2_with fail
      go_ret
      exact ⟨ret_bool (by rw [wordOk, ← H1.out, decide_eq_false hl]; rfl), rfl⟩

set_option maxRecDepth 100000 in
set_option maxHeartbeats 400000 in
theorem specWord_any (k : Int) (s : ByteArray) (w : World) (hs : s.size ≤ 9223372036854775807) :
    Calls Try.prog 63 #[.int .i64 k, .string s] w fun e w' => e = .returned (.bool (wordOk k s)) ∧ w = w' := by
  go_enter Try.func63, Try.ntmps63
  go_wp2_with fail
  refine (l01In_any k 1 4 _).mono ?_
  rintro e w' ⟨rfl, rfl⟩
  obtain ⟨r1, hrr⟩ : ∃ r', r' = (inB k 1 4) := ⟨_, rfl⟩
  rw [← hrr]
  have H1 := Lib.hid hrr
  clear hrr
  cases r1
  · go_wp2_with fail
    go_ret
    exact ⟨ret_bool (by rw [wordOk, ← H1.out]; rfl), rfl⟩
  · obtain ⟨hm1, hm2⟩ := inB_out H1.out
    by_cases hl : s.size ≤ 16
    · skip
      go_wp2_with fail
      go_loop [5] (fun i => ∃ (j : Nat), j ≤ s.size ∧ i = .int .i64 j ∧ Hid ((s.data.toList.take j).all (fun b => inB b.toNat 97 (96 + k)) = true)) (fun i => s.size - (intOf i).toNat)
      case atStart => exact ⟨0, Nat.zero_le _, rfl, by simp [Hid]⟩
      case round =>
        obtain ⟨j, hj, rfl, HA⟩ := hrel
        by_cases hlt : j < s.size
        · have hlt' : j < s.data.toList.length := by rw [bytes_len]; exact hlt
          have hv := byte_get s j hlt
          have Hv := Lib.hid hv
          clear hv
          have Hlt' := Lib.hid hlt'
          clear hlt'
          have h256 : s[j].toNat < 256 := s[j].toNat_lt
          by_cases c1 : (s[j].toNat : Int) < 97
          · go_wp2
            go_ret
            exact ⟨ret_bool (by rw [wordOk, lettersOk, all_miss (Hlt'.out) Hv.out (by simp [inB]; omega), Bool.and_false]), rfl⟩
          · by_cases c2 : k ≤ (s[j].toNat : Int) - 97
            · go_wp2
              go_ret
              exact ⟨ret_bool (by rw [wordOk, lettersOk, all_miss (Hlt'.out) Hv.out (by simp [inB]; omega), Bool.and_false]), rfl⟩
            · go_wp2
              go_round
              case rel => exact ⟨j + 1, by omega, by go_num, all_snoc (Hlt'.out) HA.out Hv.out (by simp [inB]; omega)⟩
              case measure => simp [intOf]; omega
        · have : j = s.size := by omega
          subst this
          go_wp2
          go_ret
          exact ⟨ret_bool (by have := HA.out; rw [List.take_of_length_le (by rw [bytes_len]; omega)] at this; rw [wordOk, lettersOk, this, ← H1.out, decide_eq_true hl]; rfl), rfl⟩
    · go_wp2_with fail
      go_ret
      exact ⟨ret_bool (by rw [wordOk, ← H1.out, decide_eq_false hl]; rfl), rfl⟩

end Go.Proofs.Ytidmbeeadbedaaa
