/- Walk over MakeRules of the reference: rules of two letters that are in order, in memory of their own. -/
import Derived.Test.YtidmbeeadbedaaaRlm
import Derived.Test.YtidmbeeadbedaaaSortK
namespace Go.Proofs.Ytidmbeeadbedaaa
open Go.RowKit Go.Shelf

theorem sorts2_ok : rulesOk 2 (sorts 2) = true := by decide +kernel
def RulesMade (w : World) (e : Ending) (w' : World) : Prop := ∃ (B : Option Addr) (k d : Nat) (rs : List RuleT), rulesOk 2 rs = true ∧ k = rs.length ∧ e = .returned (.agg #[.int .i64 2, .slice B k d]) ∧ w'.ownsRow w.heap.size 156 2 (.slice B k d) k (cellsRule rs) ∧ Below w.heap.size w w'
set_option maxRecDepth 100000 in
set_option maxHeartbeats 4000000 in
theorem makeRules_any (A : Option Addr) (n c : Nat) (zs : List Int) (p : Nat) (w : World) (hr : Rd w A (u8c zs)) (hn : n = zs.length) (hb : n ≤ 1048576) (hz : ∀ z ∈ zs, 0 ≤ z ∧ z ≤ 255) (hp : p ≤ 1000) :
    Calls Try.prog 20 #[.slice A n c, .int .i64 p] w (RulesMade w) := by
  have hal := (Below.refl w.heap.size w).alloc (Nat.le_refl _) (.cells #[.int .i64 0, .slice none 0 0] 25)
  have hB := Bk.new w 25 #[.int .i64 0, .slice none 0 0]
  have hr1 := hr.keep hal
  obtain ⟨W, hWd⟩ : ∃ z, z = w.alloc (.cells #[.int .i64 0, .slice none 0 0] 25) := ⟨_, rfl⟩
  rw [← hWd] at hal hB hr1
  obtain ⟨P, hP⟩ : ∃ z, z = W.heap.size := ⟨_, rfl⟩
  have hne : u8c zs ≠ [] → ∀ a, A = some a → a.block ≠ P := fun hx => rd_ne hr1 hx (Nat.le_of_eq hP.symm)
  have lP : w.heap.size < P := by rw [hP]; exact hB.lt
  have hL := l31New_any A n c zs p W hr1 hn hb hz hp
  have Hr := Lib.hid hr
  clear hr
  have Hn := Lib.hid hn
  clear hn
  have Hz := Lib.hid hz
  clear hz
  have Hne := Lib.hid hne
  clear hne
  have HWd := Lib.hid hWd
  clear hWd
  have HL := Lib.hid hL
  clear hL
  have Hal := Lib.hid hal
  clear hal
  have HB := Lib.hid hB
  clear hB
  have Hr1 := Lib.hid hr1
  clear hr1
  have HP := Lib.hid hP
  clear hP
  go_enter Try.func20, Try.ntmps20
  go_wp2_with fail
  rw [← HWd.out]
  with_reducible refine HL.out.mono ?_
  rintro e w1 ⟨rfl, hC1, hb1⟩
  have hW1 := Hal.out.trans (hb1.mono Hal.out.size)
  have hB1 := HB.out.below hb1 HB.out.lt
  rw [← HP.out] at hC1
  rw [← HP.out]
  have hS1 : Src w1 P A n c zs := ⟨hC1, Hr1.out.keep hb1, Hn.out, hb, Hz.out, Hne.out⟩
  clear hC1 hb1 Hal HB Hr1 HL
  have HS1 := Lib.hid hS1
  clear hS1
  have HW1 := Lib.hid hW1
  clear hW1
  have HB1 := Lib.hid hB1
  clear hB1
  go_wp2_with fail
  with_reducible refine (l16Case_any _ HS1.out).mono ?_
  rintro e w2 ⟨l, B, k, d, rs, u, hl, ⟨hk, hfr⟩, hu, rfl, hO, -, hG2⟩
  have hW2 := HW1.out.trans (gb_below hG2 HW1.out.size (Nat.le_of_lt lP))
  have hB2 := HB1.out.grown hG2 (by intro e; injection e with e; omega)
  have hw1s := HW1.out.size
  have hO1 := own_mono hO hw1s
  have hal3 := (Below.refl w2.heap.size w2).alloc (Nat.le_refl _) (.cells #[.int .i64 l, .slice B k d] 25)
  have hW3 := hW2.trans (hal3.mono hW2.size)
  have hB3 := hB2.below hal3 hB2.lt
  have hO3 := own_keep hO1 hal3 (Nat.le_refl _)
  have hS3 := Bk.new w2 25 #[.int .i64 l, .slice B k d]
  have hlt2 := hB2.lt
  have hrd3 := Rd.of_own hO3
  obtain ⟨sb, hsb⟩ : ∃ z, z = w2.heap.size := ⟨_, rfl⟩
  obtain ⟨w3, hw3⟩ : ∃ z, z = w2.alloc (.cells #[.int .i64 l, .slice B k d] 25) := ⟨_, rfl⟩
  rw [← hsb] at hS3 hlt2
  rw [← hw3] at hW3 hB3 hO3 hS3 hrd3
  have hkb : k ≤ 1048576 := by rw [hk]; have := hfr.1; omega
  have hzs : ∀ x ∈ rs, x.1.size ≤ 1048576 ∧ x.2.size ≤ 1048576 := fun x hx => by have := hfr.2 x hx; omega
  have s0 : w3.cell? ⟨sb, 0, none⟩ = some (.int .i64 l) := by rw [hS3.cell]; rfl
  have s1 : w3.cell? ⟨sb, 1, none⟩ = some (.slice B k d) := by rw [hS3.cell]; rfl
  have sl := hS3.lt
  clear hG2 hW2 hB2 hO hO1 hal3 hw1s HS1 HW1 HB1 hl hu
  have Hk := Lib.hid hk
  clear hk
  have Hfr := Lib.hid hfr
  clear hfr
  have HW3 := Lib.hid hW3
  clear hW3
  have HB3 := Lib.hid hB3
  clear hB3
  have HO3 := Lib.hid hO3
  clear hO3
  have HS3 := Lib.hid hS3
  clear hS3
  have Hrd3 := Lib.hid hrd3
  clear hrd3
  have Hsb := Lib.hid hsb
  clear hsb
  have Hw3 := Lib.hid hw3
  clear hw3
  have Hzs := Lib.hid hzs
  clear hzs
  go_wp2_with fail
  rw [← Hw3.out]
  try rw [← Hsb.out]
  with_reducible refine (specRulesOk_any l B k d rs _ Hrd3.out Hk.out hkb Hzs.out).mono ?_
  rintro e w4 ⟨rfl, b4⟩
  have hW4 := HW3.out.trans (b4.mono HW3.out.size)
  have hB4 := HB3.out.below b4 HB3.out.lt
  have hS4 := HS3.out.below b4 HS3.out.lt
  have hO4 := own_keep HO3.out b4 (Nat.le_refl _)
  clear b4 HW3 HB3 HS3 HO3 Hrd3 s0 s1 sl
  have c0 : w4.cell? ⟨w.heap.size, 0, none⟩ = some (.int .i64 0) := by rw [hB4.cell]; rfl
  have c1 : w4.cell? ⟨w.heap.size, 1, none⟩ = some (.slice none 0 0) := by rw [hB4.cell]; rfl
  have f0 := hB4.free 0
  have f1 := hB4.free 1
  have lb := hB4.lt
  have s0 : w4.cell? ⟨sb, 0, none⟩ = some (.int .i64 l) := by rw [hS4.cell]; rfl
  have s1 : w4.cell? ⟨sb, 1, none⟩ = some (.slice B k d) := by rw [hS4.cell]; rfl
  have sl := hS4.lt
  obtain ⟨ro, hrr⟩ : ∃ r', r' = (rulesOk l rs) := ⟨_, rfl⟩
  rw [← hrr]
  have HRo := Lib.hid hrr
  clear hrr
  have HW4 := Lib.hid hW4
  clear hW4
  have HB4 := Lib.hid hB4
  clear hB4
  have HS4 := Lib.hid hS4
  clear hS4
  have HO4 := Lib.hid hO4
  clear hO4
  by_cases hyes : ro = true ∧ l = 2
  · obtain ⟨rfl, rfl⟩ := hyes
    go_wp2_with fail
    have hne : (Value.slice B k d).ownBlock ≠ some w.heap.size := own_ne_bk HO4.out HB4.out (by decide)
    have hO9 := own_far3 (own_far3 HO4.out (p := ⟨w.heap.size, 0, none⟩) hne (.int .i64 2)) (p := ⟨w.heap.size, 1, none⟩) hne (.slice B k d)
    have hW9 := (HW4.out.setCell (p := ⟨w.heap.size, 0, none⟩) (Nat.le_refl _) (.int .i64 2)).setCell (p := ⟨w.heap.size, 1, none⟩) (Nat.le_refl _) (.slice B k d)
    have hBn := (HB4.out.put 0 (.int .i64 2)).put 1 (.slice B k d)
    have q0 := hBn.cell 0
    have q1 := hBn.cell 1
    refine bodyPost_ret (v := .agg #[.int .i64 2, .slice B k d]) (by simp [results, Try.results20, go_sem, q0, q1]) rfl ?_
    exact ⟨B, k, d, rs, HRo.out.symm, Hk.out, rfl, hO9, hW9⟩
  · have hcase : ro = false ∨ (ro = true ∧ ((l : Int) == 2) = false) := by
      cases ro with
      | false => exact .inl rfl
      | true => exact .inr ⟨rfl, by simp; exact fun e => hyes ⟨rfl, e⟩⟩
    clear hyes
    have hend : ∀ (W5 : World), Below w4.heap.size w4 W5 → True := fun _ _ => trivial
    clear hend
    rcases hcase with rfl | ⟨rfl, hl2⟩
    · go_wp2_with fail
      with_reducible refine (specSortingSystem_any 2 _).mono ?_
      rintro e w5 ⟨B5, d5, rfl, hO5, b5⟩
      have hW5 := HW4.out.trans (b5.mono HW4.out.size)
      have hB5 := HB4.out.below b5 HB4.out.lt
      have hO6 := own_mono hO5 HW4.out.size
      have e1 : sortL 2 = 2 := by decide
      have e2 : (sorts 2).length = 1 := by decide
      rw [e2] at hO6
      rw [e1, e2]
      have c0 : w5.cell? ⟨w.heap.size, 0, none⟩ = some (.int .i64 0) := by rw [hB5.cell]; rfl
      have c1 : w5.cell? ⟨w.heap.size, 1, none⟩ = some (.slice none 0 0) := by rw [hB5.cell]; rfl
      have f0 := hB5.free 0
      have f1 := hB5.free 1
      have lb := hB5.lt
      have Hw5 := Lib.hid hW5
      have Hb5 := Lib.hid hB5
      have Hx5 := Lib.hid hO6
      clear b5 hO5 hO6 hW5 hB5 s0 s1 sl e1
      have E2 := Lib.hid e2
      clear e2
      go_wp2_with fail
      have hO5 := Hx5.out
      have hne5 : (Value.slice B5 1 d5).ownBlock ≠ some w.heap.size := own_ne_bk hO5 Hb5.out (by decide)
      have hW9 := (Hw5.out.setCell (p := ⟨w.heap.size, 0, none⟩) (Nat.le_refl _) (.int .i64 2)).setCell (p := ⟨w.heap.size, 1, none⟩) (Nat.le_refl _) (.slice B5 1 d5)
      have hO9 := own_far3 (own_far3 hO5 (p := ⟨w.heap.size, 0, none⟩) hne5 (.int .i64 2)) (p := ⟨w.heap.size, 1, none⟩) hne5 (.slice B5 1 d5)
      have hBn := (Hb5.out.put 0 (.int .i64 2)).put 1 (.slice B5 1 d5)
      have hal9 := (Below.refl _ ((w5.setCell ⟨w.heap.size, 0, none⟩ (.int .i64 2)).setCell ⟨w.heap.size, 1, none⟩ (.slice B5 1 d5))).alloc (Nat.le_refl _) (.cells #[.int .i64 2, .slice B5 1 d5] 25)
      have hBn2 := hBn.below hal9 hBn.lt
      have q0 := hBn2.cell 0
      have q1 := hBn2.cell 1
      refine bodyPost_ret (v := .agg #[.int .i64 2, .slice B5 1 d5]) (by simp [results, Try.results20, go_sem, q0, q1]) rfl ?_
      exact ⟨B5, 1, d5, sorts 2, sorts2_ok, E2.out.symm, rfl, own_keep hO9 hal9 (Nat.le_refl _), hW9.trans (hal9.mono hW9.size)⟩
    · go_wp2_with fail
      with_reducible refine (specSortingSystem_any 2 _).mono ?_
      rintro e w5 ⟨B5, d5, rfl, hO5, b5⟩
      have hW5 := HW4.out.trans (b5.mono HW4.out.size)
      have hB5 := HB4.out.below b5 HB4.out.lt
      have hO6 := own_mono hO5 HW4.out.size
      have e1 : sortL 2 = 2 := by decide
      have e2 : (sorts 2).length = 1 := by decide
      rw [e2] at hO6
      rw [e1, e2]
      have c0 : w5.cell? ⟨w.heap.size, 0, none⟩ = some (.int .i64 0) := by rw [hB5.cell]; rfl
      have c1 : w5.cell? ⟨w.heap.size, 1, none⟩ = some (.slice none 0 0) := by rw [hB5.cell]; rfl
      have f0 := hB5.free 0
      have f1 := hB5.free 1
      have lb := hB5.lt
      have Hw5 := Lib.hid hW5
      have Hb5 := Lib.hid hB5
      have Hx5 := Lib.hid hO6
      clear b5 hO5 hO6 hW5 hB5 s0 s1 sl e1
      have E2 := Lib.hid e2
      clear e2
      go_wp2_with fail
      have hO5 := Hx5.out
      have hne5 : (Value.slice B5 1 d5).ownBlock ≠ some w.heap.size := own_ne_bk hO5 Hb5.out (by decide)
      have hW9 := (Hw5.out.setCell (p := ⟨w.heap.size, 0, none⟩) (Nat.le_refl _) (.int .i64 2)).setCell (p := ⟨w.heap.size, 1, none⟩) (Nat.le_refl _) (.slice B5 1 d5)
      have hO9 := own_far3 (own_far3 hO5 (p := ⟨w.heap.size, 0, none⟩) hne5 (.int .i64 2)) (p := ⟨w.heap.size, 1, none⟩) hne5 (.slice B5 1 d5)
      have hBn := (Hb5.out.put 0 (.int .i64 2)).put 1 (.slice B5 1 d5)
      have hal9 := (Below.refl _ ((w5.setCell ⟨w.heap.size, 0, none⟩ (.int .i64 2)).setCell ⟨w.heap.size, 1, none⟩ (.slice B5 1 d5))).alloc (Nat.le_refl _) (.cells #[.int .i64 2, .slice B5 1 d5] 25)
      have hBn2 := hBn.below hal9 hBn.lt
      have q0 := hBn2.cell 0
      have q1 := hBn2.cell 1
      refine bodyPost_ret (v := .agg #[.int .i64 2, .slice B5 1 d5]) (by simp [results, Try.results20, go_sem, q0, q1]) rfl ?_
      exact ⟨B5, 1, d5, sorts 2, sorts2_ok, E2.out.symm, rfl, own_keep hO9 hal9 (Nat.le_refl _), hW9.trans (hal9.mono hW9.size)⟩

end Go.Proofs.Ytidmbeeadbedaaa
