/- Walk over CountWeights of the reference. -/
import Derived.Test.YtnlagiopmkjmlaaAll
import Derived.Test.YtnlagiopmkjmlaaBxI
namespace Go.Proofs.Ytnlagiopmkjmlaa
open Go.RowKit Go.Shelf

set_option maxRecDepth 100000 in
set_option maxHeartbeats 2000000 in
theorem specCountWeights_any (l : Int) (A : Option Addr) (n c : Nat) (rs : List RuleT) (m : Int) (w : World) (hr : Rd w A (cellsRule rs)) (hn : n = rs.length) (hb : n ≤ 1048576) (hz : ∀ x ∈ rs, x.1.size ≤ 1048576 ∧ x.2.size ≤ 1048576) :
    Calls Try.prog 45 #[.agg #[.int .i64 l, .slice A n c], .int .i64 m] w (Kept w (.int .i64 (cwN l rs m))) := by
  have hW0 : Below w.heap.size w (w.alloc (.cells #[.int .i64 l, .slice A n c] 29)) := (Below.refl _ _).alloc (Nat.le_refl _) _
  have hS0 := Bk.new w 29 #[.int .i64 l, .slice A n c]
  have Hr := Lib.hid hr
  clear hr
  have Hn := Lib.hid hn
  clear hn
  have Hz := Lib.hid hz
  clear hz
  go_enter Try.func45, Try.ntmps45
  go_wp2_with fail
  with_reducible refine (specRulesOk_any l A n c rs _ (Hr.out.keep hW0) Hn.out hb Hz.out).mono ?_
  rintro e w1 ⟨rfl, b1⟩
  have hW1 := hW0.trans (b1.mono hW0.size)
  have hS1 := hS0.below b1 hS0.lt
  have s0_1 : w1.cell? ⟨w.heap.size, 0, none⟩ = some (.int .i64 l) := by rw [hS1.cell]; rfl
  have s1_1 : w1.cell? ⟨w.heap.size, 1, none⟩ = some (.slice A n c) := by rw [hS1.cell]; rfl
  have sl_1 := hS1.lt
  clear b1
  obtain ⟨r1, hrr⟩ : ∃ r', r' = (rulesOk l rs) := ⟨_, rfl⟩
  rw [← hrr]
  have H1 := Lib.hid hrr
  clear hrr
  cases r1
  · go_wp2_with fail
    go_ret
    exact ⟨ret_int (by rw [cwN, ← H1.out]; rfl), hW1⟩
  go_wp2_with fail
  refine (l01In_any m 1 6 _).mono ?_
  rintro e w2 ⟨rfl, hw2⟩
  subst hw2
  by_cases hmm : 1 ≤ m ∧ m ≤ 6
  · obtain ⟨hm1, hm2⟩ := hmm
    have hin : inB m 1 6 = true := by unfold inB; simp [hm1, hm2]
    rw [hin]
    obtain ⟨hl1, hl2⟩ := rules_letters H1.out.symm
    go_wp2_with fail
    with_reducible refine (specAll_any l A n c rs m _ (Hr.out.keep hW1) Hn.out hb H1.out.symm hl1 hl2 hm1 hm2).mono ?_
    rintro e w3 ⟨B, d, z, vs, rfl, hz2, hO3, hE3, b3⟩
    have hW3 := hW1.trans (b3.mono hW1.size)
    have hcw : cwN l rs m = (z : Int) := by rw [cwN, if_pos (by rw [← H1.out]; simp [hm1, hm2]), hz2]
    clear hz2
    have Hcw := Lib.hid hcw
    clear hcw
    go_wp2_with fail
    go_ret
    exact ⟨ret_int Hcw.out.symm, hW3⟩
  · have hin : inB m 1 6 = false := by unfold inB; simp; omega
    rw [hin]
    go_wp2_with fail
    go_ret
    exact ⟨ret_int (by rw [cwN, if_neg (by simp; omega)]), hW1⟩

end Go.Proofs.Ytnlagiopmkjmlaa
