/- Walks over SearchOk (the program's and the reference's): each returns what searchOk says, for all arguments. -/
import Derived.Test.YtidmbeeadbedaaaRulesOk
namespace Go.Proofs.Ytidmbeeadbedaaa
open Go.RowKit Go.Shelf

/-- SearchOk, in plain words. -/
def searchOk (l : Int) (rs : List RuleT) (m : Int) : Bool := rulesOk l rs && inB m 0 8 && decide (l ^ m.toNat ≤ 1024)
theorem rulesOk_l {l : Int} {rs : List RuleT} (h : rulesOk l rs = true) : 1 ≤ l ∧ l ≤ 4 := by
  unfold rulesOk at h
  simp only [Bool.and_eq_true] at h
  exact inB_out h.1.1.symm
theorem pow_bounds {l : Int} (h1 : 1 ≤ l) (h2 : l ≤ 4) (j : Nat) : 1 ≤ l ^ j ∧ l ^ j ≤ (4 : Int) ^ j := by
  induction j with
  | zero => simp
  | succ j ih =>
    obtain ⟨i1, i2⟩ := ih
    rw [Int.pow_succ, Int.pow_succ]
    constructor
    · have := Int.mul_le_mul i1 h1 (by omega) (by omega)
      omega
    · exact Int.mul_le_mul i2 h2 (by omega) (by omega)
theorem four_pow (j : Nat) (h : j ≤ 9) : (4 : Int) ^ j ≤ 262144 := by
  have : j = 0 ∨ j = 1 ∨ j = 2 ∨ j = 3 ∨ j = 4 ∨ j = 5 ∨ j = 6 ∨ j = 7 ∨ j = 8 ∨ j = 9 := by omega
  rcases this with rfl | rfl | rfl | rfl | rfl | rfl | rfl | rfl | rfl | rfl <;> decide

set_option maxRecDepth 100000 in
set_option maxHeartbeats 1000000 in
theorem implSearchOk_any (l : Int) (A : Option Addr) (n c : Nat) (xs : List RuleT) (m : Int) (w : World) (hr : Rd w A (cellsRule xs)) (hn : n = xs.length) (hb : n ≤ 1048576) (hz : ∀ x ∈ xs, x.1.size ≤ 1048576 ∧ x.2.size ≤ 1048576) :
    Calls Try.prog 86 #[.agg #[.int .i64 l, .slice A n c], .int .i64 m] w (Kept w (.bool (searchOk l xs m))) := by
  have hW : Below w.heap.size w (w.alloc (.cells #[.int .i64 l, .slice A n c] 25)) := (Below.refl _ _).alloc (Nat.le_refl _) _
  have hB := Bk.new w 25 #[.int .i64 l, .slice A n c]
  have Hz := Lib.hid hz
  clear hz
  have HB := Lib.hid hB
  clear hB
  have Hn := Lib.hid hn
  clear hn
  go_enter Try.func86, Try.ntmps86
  go_wp2_with fail
  refine (implRulesOk_any l A n c xs _ (hr.keep hW) Hn.out hb Hz.out).mono ?_
  rintro e w1 ⟨rfl, b1⟩
  have hS := HB.out.below b1 HB.out.lt
  have hW1 := hW.trans (b1.mono hW.size)
  have s0 : w1.cell? ⟨w.heap.size, 0, none⟩ = some (.int .i64 l) := by rw [hS.cell]; rfl
  have sl := hS.lt
  clear hS b1
  obtain ⟨r1, hrr⟩ : ∃ r', r' = (rulesOk l xs) := ⟨_, rfl⟩
  rw [← hrr]
  have H1 := Lib.hid hrr
  clear hrr
  cases r1
  · go_wp2_with fail
    go_ret
    exact ⟨ret_bool (by rw [searchOk, ← H1.out]; rfl), hW1⟩
  go_wp2_with fail
  refine (within_any m 0 8 _).mono ?_
  rintro e w' ⟨rfl, rfl⟩
  obtain ⟨r2, hrr⟩ : ∃ r', r' = (inB m 0 8) := ⟨_, rfl⟩
  rw [← hrr]
  have H2 := Lib.hid hrr
  clear hrr
  cases r2
  · go_wp2_with fail
    go_ret
    exact ⟨ret_bool (by rw [searchOk, ← H1.out, ← H2.out]; rfl), hW1⟩
  obtain ⟨hl1, hl2⟩ := rulesOk_l H1.out.symm
  obtain ⟨hm1, hm2⟩ := inB_out H2.out
  obtain ⟨M, rfl⟩ := Int.eq_ofNat_of_zero_le hm1
  go_wp2_with fail
  go_loop [5, 15] (fun p i => ∃ (j : Nat), j ≤ M ∧ i = .int .i64 j ∧ p = .int .i64 (l ^ j)) (fun _ i => M - (intOf i).toNat)
  case atStart => exact ⟨0, Nat.zero_le _, rfl, by rw [Int.pow_zero]⟩
  case round =>
    obtain ⟨j, hj, rfl, rfl⟩ := hrel
    by_cases hlt : j < M
    · have hp1 := pow_bounds hl1 hl2 (j + 1)
      have hp2 := four_pow (j + 1) (by omega)
      have hp : l ^ (j + 1) = l ^ j * l := Int.pow_succ ..
      rw [hp] at hp1
      obtain ⟨hp1, hp3⟩ := hp1
      have hp4 : l ^ j * l ≤ 262144 := by omega
      clear hp2 hp3
      obtain ⟨p, hpe⟩ : ∃ p, p = l ^ j := ⟨_, rfl⟩
      rw [← hpe] at hp1 hp4 hp ⊢
      have Hp := Lib.hid hp
      clear hp
      have Hpe := Lib.hid hpe
      clear hpe
      go_wp2_with fail
      go_round
      case rel => exact ⟨j + 1, by omega, by go_num, by rw [Hp.out]⟩
      case measure => simp [intOf]; omega
    · have : j = M := by omega
      subst this
      obtain ⟨p, hpe⟩ : ∃ p, p = l ^ j := ⟨_, rfl⟩
      rw [← hpe]
      have Hpe := Lib.hid hpe
      clear hpe
      go_wp2_with fail
      go_ret
      exact ⟨ret_bool (by rw [searchOk, ← H1.out, ← H2.out, Int.toNat_natCast, ← Hpe.out]; rfl), hW1⟩

end Go.Proofs.Ytidmbeeadbedaaa
