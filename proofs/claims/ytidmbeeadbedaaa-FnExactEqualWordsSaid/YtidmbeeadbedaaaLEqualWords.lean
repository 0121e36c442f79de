/- For every input the law FnExactEqualWords returns true and leaves its arguments as they were. No condition. -/
import Derived.Test.YtidmbeeadbedaaaEqS
import Derived.Test.YtidmbeeadbedaaaMg12
import Derived.Test.YtidmbeeadbedaaaMg13
import Derived.Test.YtidmbeeadbedaaaMg9
namespace Go.Proofs.Ytidmbeeadbedaaa
open Go.ChangeShapes Go.WideShapes Go.ChangeAt Go.RowKit Go.Shelf

set_option maxRecDepth 100000 in
set_option maxHeartbeats 1000000 in
theorem law_EqualWords (w : World) (v0 : Value) (z0 : Int × Option Addr × Nat × Nat × List RuleT) (R0 : OpenSystem w v0 z0) (u : ByteArray) (hw1 : u.size ≤ maxLen) (lim : Int) (_ : (Lit.int .i64 lim).wf = true) :
    Calls Try.prog 8 #[v0, .string u, .int .i64 lim] w (Kept w (.bool true)) := by
  obtain ⟨l0, A0, n0, c0, rs⟩ := z0
  obtain ⟨rfl, hr0, hn0, hm0, hz0⟩ := R0
  dsimp only at hr0 hn0 hm0 hz0
  unfold maxLen at hw1
  by_cases hb1 : u.size ≤ 1048576
  rotate_left
  · skip
    go_enter Try.func8, Try.ntmps8
    go_wp2_with fail
    go_ret
    exact ⟨rfl, (by repeat (first | exact Below.refl _ _ | (refine Below.alloc ?_ (by simp <;> omega) _)))⟩
  have Hn0 := Lib.hid hn0
  clear hn0
  go_enter Try.func8, Try.ntmps8
  go_wp2_with fail
  generalize hq : (w.alloc (.cells #[.int .i64 l0, .slice A0 n0 c0] 82)) = w1
  have b1 : Below w.heap.size w w1 := by rw [← hq]; exact ((Below.refl _ _).alloc (by simp <;> omega) _)
  have t1 := b1
  have xp0_1 : Bk w1 (w.heap.size) 82 #[.int .i64 l0, .slice A0 n0 c0] := by rw [← hq]; exact ((Bk.new w 82 #[.int .i64 l0, .slice A0 n0 c0])).cast (by simp)
  clear hq
  have cp0_0 : w1.cell? ⟨w.heap.size, 0, none⟩ = some (.int .i64 l0) := by rw [xp0_1.cell]; rfl
  have cp0_1 : w1.cell? ⟨w.heap.size, 1, none⟩ = some (.slice A0 n0 c0) := by rw [xp0_1.cell]; rfl
  have lp0 := xp0_1.lt
  have XP0_1 := Lib.hid xp0_1
  clear xp0_1
  (try go_wp2_with fail)
  (with_reducible refine (szSystem_any l0 A0 n0 c0 rs 1048576 _ (hr0.keep t1) Hn0.out hm0 (by omega) (by omega) hz0).mono ?_)
  rintro e w2 ⟨rfl, b2⟩
  have t2 := t1.trans (b2.mono t1.size)
  clear lp0 cp0_0 cp0_1
  have xp0_2 := XP0_1.out.below b2 XP0_1.out.lt
  clear XP0_1
  have cp0_0 : w2.cell? ⟨w.heap.size, 0, none⟩ = some (.int .i64 l0) := by rw [xp0_2.cell]; rfl
  have cp0_1 : w2.cell? ⟨w.heap.size, 1, none⟩ = some (.slice A0 n0 c0) := by rw [xp0_2.cell]; rfl
  have lp0 := xp0_2.lt
  have XP0_2 := Lib.hid xp0_2
  clear xp0_2
  by_cases ht0 : (1048576 : Int) - (totRule rs : Nat) < 0
  · rw [szLeft, if_pos ht0]
    go_wp2_with fail
    go_ret
    exact ⟨rfl, t2⟩
  rw [szLeft, if_neg ht0]
  have hs0 : totRule rs ≤ 1048576 := by omega
  have hb0 : n0 ≤ 1048576 := by have := tot_len_rules rs; have := Hn0.out; omega
  have hy0 := tot_all_rules rs hs0
  have hl0 : (0 : Int) ≤ 1048576 - (totRule rs : Nat) := by omega
  clear ht0
  go_wp2_with fail
  (with_reducible refine (toSystem_any l0 A0 n0 c0 rs _ (hr0.keep t2) Hn0.out hb0 hy0).mono ?_)
  rintro e w3 ⟨B3, d3, rfl, ox3_3, b3⟩
  have t3 := t2.trans (b3.mono t2.size)
  clear lp0 cp0_0 cp0_1
  have xp0_3 := XP0_2.out.below b3 XP0_2.out.lt
  clear XP0_2
  have cp0_0 : w3.cell? ⟨w.heap.size, 0, none⟩ = some (.int .i64 l0) := by rw [xp0_3.cell]; rfl
  have cp0_1 : w3.cell? ⟨w.heap.size, 1, none⟩ = some (.slice A0 n0 c0) := by rw [xp0_3.cell]; rfl
  have lp0 := xp0_3.lt
  have XP0_3 := Lib.hid xp0_3
  clear xp0_3
  go_wp2_with fail
  (with_reducible refine (specEqualWords_any l0 B3 n0 d3 rs u lim _ (Rd.of_own ox3_3) Hn0.out hb0 hy0 hb1).mono ?_)
  rintro e w4 ⟨B4, d4, rfl, og4_4, b4⟩
  have t4 := t3.trans (b4.mono t3.size)
  have a_x3_g4 := Lib.hid (own_apart ox3_3 og4_4 (Nat.le_refl _))
  have a_g4_x3 := Lib.hid (own_apart' og4_4 ox3_3 (Nat.le_refl _))
  clear lp0 cp0_0 cp0_1
  have ox3_4 := own_keep ox3_3 b4 (Nat.le_refl _)
  clear ox3_3
  have xp0_4 := XP0_3.out.below b4 XP0_3.out.lt
  clear XP0_3
  have cp0_0 : w4.cell? ⟨w.heap.size, 0, none⟩ = some (.int .i64 l0) := by rw [xp0_4.cell]; rfl
  have cp0_1 : w4.cell? ⟨w.heap.size, 1, none⟩ = some (.slice A0 n0 c0) := by rw [xp0_4.cell]; rfl
  have lp0 := xp0_4.lt
  have XP0_4 := Lib.hid xp0_4
  clear xp0_4
  clear ox3_4
  go_wp2_with fail
  (with_reducible refine (toSystem_any l0 A0 n0 c0 rs _ (hr0.keep t4) Hn0.out hb0 hy0).mono ?_)
  rintro e w5 ⟨B5, d5, rfl, ox5_5, b5⟩
  have t5 := t4.trans (b5.mono t4.size)
  have a_g4_x5 := Lib.hid (own_apart og4_4 ox5_5 (Nat.le_refl _))
  have a_x5_g4 := Lib.hid (own_apart' ox5_5 og4_4 (Nat.le_refl _))
  clear lp0 cp0_0 cp0_1
  have og4_5 := own_keep og4_4 b5 (Nat.le_refl _)
  clear og4_4
  have xp0_5 := XP0_4.out.below b5 XP0_4.out.lt
  clear XP0_4
  have cp0_0 : w5.cell? ⟨w.heap.size, 0, none⟩ = some (.int .i64 l0) := by rw [xp0_5.cell]; rfl
  have cp0_1 : w5.cell? ⟨w.heap.size, 1, none⟩ = some (.slice A0 n0 c0) := by rw [xp0_5.cell]; rfl
  have lp0 := xp0_5.lt
  have XP0_5 := Lib.hid xp0_5
  clear xp0_5
  go_wp2_with fail
  generalize hq : w5.alloc (.cells #[.int .i64 l0, .slice B5 n0 d5] 25) = w6
  have b6 : Below w5.heap.size w5 w6 := by rw [← hq]; exact (Below.refl _ _).alloc (Nat.le_refl _) _
  have t6 := t5.trans (b6.mono t5.size)
  have xv6_6 : Bk w6 w5.heap.size 25 #[.int .i64 l0, .slice B5 n0 d5] := by rw [← hq]; exact Bk.new _ _ _
  clear hq
  clear lp0 cp0_0 cp0_1
  have og4_6 := own_keep og4_5 b6 (Nat.le_refl _)
  clear og4_5
  have ox5_6 := own_keep ox5_5 b6 (Nat.le_refl _)
  clear ox5_5
  have xp0_6 := XP0_5.out.below b6 XP0_5.out.lt
  clear XP0_5
  have cp0_0 : w6.cell? ⟨w.heap.size, 0, none⟩ = some (.int .i64 l0) := by rw [xp0_6.cell]; rfl
  have cp0_1 : w6.cell? ⟨w.heap.size, 1, none⟩ = some (.slice A0 n0 c0) := by rw [xp0_6.cell]; rfl
  have lp0 := xp0_6.lt
  have XP0_6 := Lib.hid xp0_6
  clear xp0_6
  have cv6_0 : w6.cell? ⟨w5.heap.size, 0, none⟩ = some (.int .i64 l0) := by rw [xv6_6.cell]; rfl
  have cv6_1 : w6.cell? ⟨w5.heap.size, 1, none⟩ = some (.slice B5 n0 d5) := by rw [xv6_6.cell]; rfl
  have lv6 := xv6_6.lt
  have XV6_6 := Lib.hid xv6_6
  clear xv6_6
  (try go_wp2_with fail)
  (with_reducible refine (implEqualWords_any l0 B5 n0 d5 rs u lim _ (Rd.of_own ox5_6) Hn0.out hb0 hy0 hb1).mono ?_)
  rintro e w7 ⟨B7, d7, rfl, og7_7, b7⟩
  have t7 := t6.trans (b7.mono t6.size)
  have a_g4_g7 := Lib.hid (own_apart og4_6 og7_7 (Nat.le_refl _))
  have a_g7_g4 := Lib.hid (own_apart' og7_7 og4_6 (Nat.le_refl _))
  have a_x5_g7 := Lib.hid (own_apart ox5_6 og7_7 (Nat.le_refl _))
  have a_g7_x5 := Lib.hid (own_apart' og7_7 ox5_6 (Nat.le_refl _))
  clear lp0 cp0_0 cp0_1
  clear lv6 cv6_0 cv6_1
  have og4_7 := own_keep og4_6 b7 (Nat.le_refl _)
  clear og4_6
  have ox5_7 := own_keep ox5_6 b7 (Nat.le_refl _)
  clear ox5_6
  have xp0_7 := XP0_6.out.below b7 XP0_6.out.lt
  clear XP0_6
  have xv6_7 := XV6_6.out.below b7 XV6_6.out.lt
  clear XV6_6
  have cp0_0 : w7.cell? ⟨w.heap.size, 0, none⟩ = some (.int .i64 l0) := by rw [xp0_7.cell]; rfl
  have cp0_1 : w7.cell? ⟨w.heap.size, 1, none⟩ = some (.slice A0 n0 c0) := by rw [xp0_7.cell]; rfl
  have lp0 := xp0_7.lt
  have XP0_7 := Lib.hid xp0_7
  clear xp0_7
  have cv6_0 : w7.cell? ⟨w5.heap.size, 0, none⟩ = some (.int .i64 l0) := by rw [xv6_7.cell]; rfl
  have cv6_1 : w7.cell? ⟨w5.heap.size, 1, none⟩ = some (.slice B5 n0 d5) := by rw [xv6_7.cell]; rfl
  have lv6 := xv6_7.lt
  have XV6_7 := Lib.hid xv6_7
  clear xv6_7
  go_wp2_with fail
  (with_reducible refine (eqStringS_k B7 ((eqL l0 rs u lim).length) d7 (eqL l0 rs u lim)  B4 ((eqL l0 rs u lim).length) d4 (eqL l0 rs u lim) _ (Rd.of_own og7_7) rfl (le_big (eqL_len l0 rs u lim)) (Rd.of_own og4_7) rfl (le_big (eqL_len l0 rs u lim))).mono ?_)
  rintro e w8 ⟨rfl, b8⟩
  have t8 := t7.trans (b8.mono t7.size)
  clear lp0 cp0_0 cp0_1
  clear lv6 cv6_0 cv6_1
  have og4_8 := own_keep og4_7 b8 (Nat.le_refl _)
  clear og4_7
  have ox5_8 := own_keep ox5_7 b8 (Nat.le_refl _)
  clear ox5_7
  have og7_8 := own_keep og7_7 b8 (Nat.le_refl _)
  clear og7_7
  have xp0_8 := XP0_7.out.below b8 XP0_7.out.lt
  clear XP0_7
  have xv6_8 := XV6_7.out.below b8 XV6_7.out.lt
  clear XV6_7
  have cp0_0 : w8.cell? ⟨w.heap.size, 0, none⟩ = some (.int .i64 l0) := by rw [xp0_8.cell]; rfl
  have cp0_1 : w8.cell? ⟨w.heap.size, 1, none⟩ = some (.slice A0 n0 c0) := by rw [xp0_8.cell]; rfl
  have lp0 := xp0_8.lt
  have XP0_8 := Lib.hid xp0_8
  clear xp0_8
  have cv6_0 : w8.cell? ⟨w5.heap.size, 0, none⟩ = some (.int .i64 l0) := by rw [xv6_8.cell]; rfl
  have cv6_1 : w8.cell? ⟨w5.heap.size, 1, none⟩ = some (.slice B5 n0 d5) := by rw [xv6_8.cell]; rfl
  have lv6 := xv6_8.lt
  have XV6_8 := Lib.hid xv6_8
  clear xv6_8
  go_wp2_with fail
  have eS : ∀ w', Below w8.drew.heap.size w8.drew w' → w'.cell? ⟨w.heap.size, 0, none⟩ = some (.int .i64 l0) ∧ w'.cell? ⟨w.heap.size, 1, none⟩ = some (.slice A0 n0 c0) ∧ w'.cell? ⟨w5.heap.size, 0, none⟩ = some (.int .i64 l0) ∧ w'.cell? ⟨w5.heap.size, 1, none⟩ = some (.slice B5 n0 d5) := fun w' hb => ⟨(hb.cell (p := ⟨w.heap.size, 0, none⟩) XP0_8.out.lt).trans cp0_0, (hb.cell (p := ⟨w.heap.size, 1, none⟩) XP0_8.out.lt).trans cp0_1, (hb.cell (p := ⟨w5.heap.size, 0, none⟩) XV6_8.out.lt).trans cv6_0, (hb.cell (p := ⟨w5.heap.size, 1, none⟩) XV6_8.out.lt).trans cv6_1⟩
  have zS := eS _ (Below.refl _ _)
  have ES := Lib.hid eS
  clear eS
  have ZS := Lib.hid zS
  clear zS
  go_region_held3 (fun w' => w'.cell? ⟨w.heap.size, 0, none⟩ = some (.int .i64 l0) ∧ w'.cell? ⟨w.heap.size, 1, none⟩ = some (.slice A0 n0 c0) ∧ w'.cell? ⟨w5.heap.size, 0, none⟩ = some (.int .i64 l0) ∧ w'.cell? ⟨w5.heap.size, 1, none⟩ = some (.slice B5 n0 d5)) (first | exact ZS.out | assumption) ((first | ((with_reducible refine (toSystem_any l0 A0 n0 c0 rs _ (Rd.drew (hr0.keep t8)) Hn0.out hb0 hy0).mono ?_); rintro e y8 ⟨B9, d9, rfl, oy8, hU1⟩; have hS1 := ES.out _ hU1; have oz8 := own_keep (w := w8.drew) ox5_8 hU1 (Nat.le_refl _)) | ((with_reducible refine (eqSystem_k l0 B5 n0 d5 rs l0 B9 n0 d9 rs _ (Rd.of_own oz8) Hn0.out (le_big hb0) (Rd.of_own oy8) Hn0.out (le_big hb0)).mono ?_); rintro e w9 ⟨rfl, hU2⟩; have hU3 := hU1.trans (hU2.mono hU1.size); have hS2 := ES.out _ hU3)))
  have b9 : Below w8.heap.size w8 w9 := ((Below.refl _ _).drew).trans hU3
  have t9 := t8.trans (b9.mono t8.size)
  clear hU1 hU2 hU3 hS1 hS2 ES ZS oy8 oz8
  clear lp0 cp0_0 cp0_1
  clear lv6 cv6_0 cv6_1
  have og4_9 := own_keep og4_8 b9 (Nat.le_refl _)
  clear og4_8
  have ox5_9 := own_keep ox5_8 b9 (Nat.le_refl _)
  clear ox5_8
  have og7_9 := own_keep og7_8 b9 (Nat.le_refl _)
  clear og7_8
  have xp0_9 := XP0_8.out.below b9 XP0_8.out.lt
  clear XP0_8
  have xv6_9 := XV6_8.out.below b9 XV6_8.out.lt
  clear XV6_8
  have cp0_0 : w9.cell? ⟨w.heap.size, 0, none⟩ = some (.int .i64 l0) := by rw [xp0_9.cell]; rfl
  have cp0_1 : w9.cell? ⟨w.heap.size, 1, none⟩ = some (.slice A0 n0 c0) := by rw [xp0_9.cell]; rfl
  have lp0 := xp0_9.lt
  have XP0_9 := Lib.hid xp0_9
  clear xp0_9
  have cv6_0 : w9.cell? ⟨w5.heap.size, 0, none⟩ = some (.int .i64 l0) := by rw [xv6_9.cell]; rfl
  have cv6_1 : w9.cell? ⟨w5.heap.size, 1, none⟩ = some (.slice B5 n0 d5) := by rw [xv6_9.cell]; rfl
  have lv6 := xv6_9.lt
  have XV6_9 := Lib.hid xv6_9
  clear xv6_9
  go_wp2_with fail
  (with_reducible refine (markSystem_any l0 B5 n0 d5 _ 1 _ _ ox5_9 (by omega) (by have := hb0; omega)).mono ?_)
  rintro e w10 ⟨rfl, ox5_10, gr10⟩
  have t10 := below_marked t9 gr10 ox5_9 t4.size
  have og4_10 := og4_9.kept gr10 a_g4_x5.out
  clear og4_9
  have og7_10 := og7_9.kept gr10 a_g7_x5.out
  clear og7_9
  clear lp0 cp0_0 cp0_1
  clear lv6 cv6_0 cv6_1
  have xp0_10 := XP0_9.out.grown gr10 (own_bk_ne ox5_9 XP0_9.out (by decide))
  clear XP0_9
  have xv6_10 := XV6_9.out.grown gr10 (own_bk_ne ox5_9 XV6_9.out (by decide))
  clear XV6_9
  have cp0_0 : w10.cell? ⟨w.heap.size, 0, none⟩ = some (.int .i64 l0) := by rw [xp0_10.cell]; rfl
  have cp0_1 : w10.cell? ⟨w.heap.size, 1, none⟩ = some (.slice A0 n0 c0) := by rw [xp0_10.cell]; rfl
  have lp0 := xp0_10.lt
  have XP0_10 := Lib.hid xp0_10
  clear xp0_10
  have cv6_0 : w10.cell? ⟨w5.heap.size, 0, none⟩ = some (.int .i64 l0) := by rw [xv6_10.cell]; rfl
  have cv6_1 : w10.cell? ⟨w5.heap.size, 1, none⟩ = some (.slice B5 n0 d5) := by rw [xv6_10.cell]; rfl
  have lv6 := xv6_10.lt
  have XV6_10 := Lib.hid xv6_10
  clear xv6_10
  clear ox5_9 gr10
  go_wp2_with fail
  (with_reducible refine (eqStringS_k B7 ((eqL l0 rs u lim).length) d7 (eqL l0 rs u lim)  B4 ((eqL l0 rs u lim).length) d4 (eqL l0 rs u lim) _ (Rd.of_own og7_10) rfl (le_big (eqL_len l0 rs u lim)) (Rd.of_own og4_10) rfl (le_big (eqL_len l0 rs u lim))).mono ?_)
  rintro e w11 ⟨rfl, b11⟩
  have t11 := t10.trans (b11.mono t10.size)
  clear lp0 cp0_0 cp0_1
  clear lv6 cv6_0 cv6_1
  have og4_11 := own_keep og4_10 b11 (Nat.le_refl _)
  clear og4_10
  have ox5_11 := own_keep ox5_10 b11 (Nat.le_refl _)
  clear ox5_10
  have og7_11 := own_keep og7_10 b11 (Nat.le_refl _)
  clear og7_10
  have xp0_11 := XP0_10.out.below b11 XP0_10.out.lt
  clear XP0_10
  have xv6_11 := XV6_10.out.below b11 XV6_10.out.lt
  clear XV6_10
  have cp0_0 : w11.cell? ⟨w.heap.size, 0, none⟩ = some (.int .i64 l0) := by rw [xp0_11.cell]; rfl
  have cp0_1 : w11.cell? ⟨w.heap.size, 1, none⟩ = some (.slice A0 n0 c0) := by rw [xp0_11.cell]; rfl
  have lp0 := xp0_11.lt
  have XP0_11 := Lib.hid xp0_11
  clear xp0_11
  have cv6_0 : w11.cell? ⟨w5.heap.size, 0, none⟩ = some (.int .i64 l0) := by rw [xv6_11.cell]; rfl
  have cv6_1 : w11.cell? ⟨w5.heap.size, 1, none⟩ = some (.slice B5 n0 d5) := by rw [xv6_11.cell]; rfl
  have lv6 := xv6_11.lt
  have XV6_11 := Lib.hid xv6_11
  clear xv6_11
  go_wp2_with fail
  (with_reducible refine (markStringS_any B7 ((eqL l0 rs u lim).length) d7 _ 1 _ _ og7_11 (by omega) (by have := (eqL_len l0 rs u lim); omega)).mono ?_)
  rintro e w12 ⟨rfl, og7_12, gr12⟩
  have t12 := below_marked t11 gr12 og7_11 t6.size
  have og4_12 := og4_11.kept gr12 a_g4_g7.out
  clear og4_11
  have ox5_12 := ox5_11.kept gr12 a_x5_g7.out
  clear ox5_11
  clear lp0 cp0_0 cp0_1
  clear lv6 cv6_0 cv6_1
  have xp0_12 := XP0_11.out.grown gr12 (own_bk_ne og7_11 XP0_11.out (by decide))
  clear XP0_11
  have xv6_12 := XV6_11.out.grown gr12 (own_bk_ne og7_11 XV6_11.out (by decide))
  clear XV6_11
  have cp0_0 : w12.cell? ⟨w.heap.size, 0, none⟩ = some (.int .i64 l0) := by rw [xp0_12.cell]; rfl
  have cp0_1 : w12.cell? ⟨w.heap.size, 1, none⟩ = some (.slice A0 n0 c0) := by rw [xp0_12.cell]; rfl
  have lp0 := xp0_12.lt
  have XP0_12 := Lib.hid xp0_12
  clear xp0_12
  have cv6_0 : w12.cell? ⟨w5.heap.size, 0, none⟩ = some (.int .i64 l0) := by rw [xv6_12.cell]; rfl
  have cv6_1 : w12.cell? ⟨w5.heap.size, 1, none⟩ = some (.slice B5 n0 d5) := by rw [xv6_12.cell]; rfl
  have lv6 := xv6_12.lt
  have XV6_12 := Lib.hid xv6_12
  clear xv6_12
  clear og7_11 gr12
  go_wp2_with fail
  (with_reducible refine (heldStringS_k B7 ((eqL l0 rs u lim).length) d7 1 _ (Rd.of_own og7_12) (by omega) (by have := (eqL_len l0 rs u lim); omega)).mono ?_)
  rintro e w13 ⟨rfl, b13⟩
  have t13 := t12.trans (b13.mono t12.size)
  clear lp0 cp0_0 cp0_1
  clear lv6 cv6_0 cv6_1
  have og4_13 := own_keep og4_12 b13 (Nat.le_refl _)
  clear og4_12
  have ox5_13 := own_keep ox5_12 b13 (Nat.le_refl _)
  clear ox5_12
  have og7_13 := own_keep og7_12 b13 (Nat.le_refl _)
  clear og7_12
  have xp0_13 := XP0_12.out.below b13 XP0_12.out.lt
  clear XP0_12
  have xv6_13 := XV6_12.out.below b13 XV6_12.out.lt
  clear XV6_12
  have cp0_0 : w13.cell? ⟨w.heap.size, 0, none⟩ = some (.int .i64 l0) := by rw [xp0_13.cell]; rfl
  have cp0_1 : w13.cell? ⟨w.heap.size, 1, none⟩ = some (.slice A0 n0 c0) := by rw [xp0_13.cell]; rfl
  have lp0 := xp0_13.lt
  have XP0_13 := Lib.hid xp0_13
  clear xp0_13
  have cv6_0 : w13.cell? ⟨w5.heap.size, 0, none⟩ = some (.int .i64 l0) := by rw [xv6_13.cell]; rfl
  have cv6_1 : w13.cell? ⟨w5.heap.size, 1, none⟩ = some (.slice B5 n0 d5) := by rw [xv6_13.cell]; rfl
  have lv6 := xv6_13.lt
  have XV6_13 := Lib.hid xv6_13
  clear xv6_13
  go_wp2_with fail
  (with_reducible refine (toSystem_any l0 A0 n0 c0 rs _ (hr0.keep t13) Hn0.out hb0 hy0).mono ?_)
  rintro e w14 ⟨B14, d14, rfl, ox14_14, b14⟩
  have t14 := t13.trans (b14.mono t13.size)
  have a_g4_x14 := Lib.hid (own_apart og4_13 ox14_14 (Nat.le_refl _))
  have a_x14_g4 := Lib.hid (own_apart' ox14_14 og4_13 (Nat.le_refl _))
  have a_x5_x14 := Lib.hid (own_apart ox5_13 ox14_14 (Nat.le_refl _))
  have a_x14_x5 := Lib.hid (own_apart' ox14_14 ox5_13 (Nat.le_refl _))
  have a_g7_x14 := Lib.hid (own_apart og7_13 ox14_14 (Nat.le_refl _))
  have a_x14_g7 := Lib.hid (own_apart' ox14_14 og7_13 (Nat.le_refl _))
  clear lp0 cp0_0 cp0_1
  clear lv6 cv6_0 cv6_1
  have og4_14 := own_keep og4_13 b14 (Nat.le_refl _)
  clear og4_13
  have ox5_14 := own_keep ox5_13 b14 (Nat.le_refl _)
  clear ox5_13
  have og7_14 := own_keep og7_13 b14 (Nat.le_refl _)
  clear og7_13
  have xp0_14 := XP0_13.out.below b14 XP0_13.out.lt
  clear XP0_13
  have xv6_14 := XV6_13.out.below b14 XV6_13.out.lt
  clear XV6_13
  have cp0_0 : w14.cell? ⟨w.heap.size, 0, none⟩ = some (.int .i64 l0) := by rw [xp0_14.cell]; rfl
  have cp0_1 : w14.cell? ⟨w.heap.size, 1, none⟩ = some (.slice A0 n0 c0) := by rw [xp0_14.cell]; rfl
  have lp0 := xp0_14.lt
  have XP0_14 := Lib.hid xp0_14
  clear xp0_14
  have cv6_0 : w14.cell? ⟨w5.heap.size, 0, none⟩ = some (.int .i64 l0) := by rw [xv6_14.cell]; rfl
  have cv6_1 : w14.cell? ⟨w5.heap.size, 1, none⟩ = some (.slice B5 n0 d5) := by rw [xv6_14.cell]; rfl
  have lv6 := xv6_14.lt
  have XV6_14 := Lib.hid xv6_14
  clear xv6_14
  go_wp2_with fail
  (with_reducible refine (implEqualWords_any l0 B14 n0 d14 rs u lim _ (Rd.of_own ox14_14) Hn0.out hb0 hy0 hb1).mono ?_)
  rintro e w15 ⟨B15, d15, rfl, og15_15, b15⟩
  have t15 := t14.trans (b15.mono t14.size)
  have a_g4_g15 := Lib.hid (own_apart og4_14 og15_15 (Nat.le_refl _))
  have a_g15_g4 := Lib.hid (own_apart' og15_15 og4_14 (Nat.le_refl _))
  have a_x5_g15 := Lib.hid (own_apart ox5_14 og15_15 (Nat.le_refl _))
  have a_g15_x5 := Lib.hid (own_apart' og15_15 ox5_14 (Nat.le_refl _))
  have a_g7_g15 := Lib.hid (own_apart og7_14 og15_15 (Nat.le_refl _))
  have a_g15_g7 := Lib.hid (own_apart' og15_15 og7_14 (Nat.le_refl _))
  have a_x14_g15 := Lib.hid (own_apart ox14_14 og15_15 (Nat.le_refl _))
  have a_g15_x14 := Lib.hid (own_apart' og15_15 ox14_14 (Nat.le_refl _))
  clear lp0 cp0_0 cp0_1
  clear lv6 cv6_0 cv6_1
  have og4_15 := own_keep og4_14 b15 (Nat.le_refl _)
  clear og4_14
  have ox5_15 := own_keep ox5_14 b15 (Nat.le_refl _)
  clear ox5_14
  have og7_15 := own_keep og7_14 b15 (Nat.le_refl _)
  clear og7_14
  have ox14_15 := own_keep ox14_14 b15 (Nat.le_refl _)
  clear ox14_14
  have xp0_15 := XP0_14.out.below b15 XP0_14.out.lt
  clear XP0_14
  have xv6_15 := XV6_14.out.below b15 XV6_14.out.lt
  clear XV6_14
  have cp0_0 : w15.cell? ⟨w.heap.size, 0, none⟩ = some (.int .i64 l0) := by rw [xp0_15.cell]; rfl
  have cp0_1 : w15.cell? ⟨w.heap.size, 1, none⟩ = some (.slice A0 n0 c0) := by rw [xp0_15.cell]; rfl
  have lp0 := xp0_15.lt
  have XP0_15 := Lib.hid xp0_15
  clear xp0_15
  have cv6_0 : w15.cell? ⟨w5.heap.size, 0, none⟩ = some (.int .i64 l0) := by rw [xv6_15.cell]; rfl
  have cv6_1 : w15.cell? ⟨w5.heap.size, 1, none⟩ = some (.slice B5 n0 d5) := by rw [xv6_15.cell]; rfl
  have lv6 := xv6_15.lt
  have XV6_15 := Lib.hid xv6_15
  clear xv6_15
  clear ox14_15
  go_wp2_with fail
  (with_reducible refine (eqStringS_k B15 ((eqL l0 rs u lim).length) d15 (eqL l0 rs u lim)  B4 ((eqL l0 rs u lim).length) d4 (eqL l0 rs u lim) _ (Rd.of_own og15_15) rfl (le_big (eqL_len l0 rs u lim)) (Rd.of_own og4_15) rfl (le_big (eqL_len l0 rs u lim))).mono ?_)
  rintro e w16 ⟨rfl, b16⟩
  have t16 := t15.trans (b16.mono t15.size)
  clear lp0 cp0_0 cp0_1
  clear lv6 cv6_0 cv6_1
  have og4_16 := own_keep og4_15 b16 (Nat.le_refl _)
  clear og4_15
  have ox5_16 := own_keep ox5_15 b16 (Nat.le_refl _)
  clear ox5_15
  have og7_16 := own_keep og7_15 b16 (Nat.le_refl _)
  clear og7_15
  have og15_16 := own_keep og15_15 b16 (Nat.le_refl _)
  clear og15_15
  have xp0_16 := XP0_15.out.below b16 XP0_15.out.lt
  clear XP0_15
  have xv6_16 := XV6_15.out.below b16 XV6_15.out.lt
  clear XV6_15
  have cp0_0 : w16.cell? ⟨w.heap.size, 0, none⟩ = some (.int .i64 l0) := by rw [xp0_16.cell]; rfl
  have cp0_1 : w16.cell? ⟨w.heap.size, 1, none⟩ = some (.slice A0 n0 c0) := by rw [xp0_16.cell]; rfl
  have lp0 := xp0_16.lt
  have XP0_16 := Lib.hid xp0_16
  clear xp0_16
  have cv6_0 : w16.cell? ⟨w5.heap.size, 0, none⟩ = some (.int .i64 l0) := by rw [xv6_16.cell]; rfl
  have cv6_1 : w16.cell? ⟨w5.heap.size, 1, none⟩ = some (.slice B5 n0 d5) := by rw [xv6_16.cell]; rfl
  have lv6 := xv6_16.lt
  have XV6_16 := Lib.hid xv6_16
  clear xv6_16
  go_wp2_with fail
  (with_reducible refine (heldStringS_k B7 ((eqL l0 rs u lim).length) d7 1 _ (Rd.of_own og7_16) (by omega) (by have := (eqL_len l0 rs u lim); omega)).mono ?_)
  rintro e w17 ⟨rfl, b17⟩
  have t17 := t16.trans (b17.mono t16.size)
  clear lp0 cp0_0 cp0_1
  clear lv6 cv6_0 cv6_1
  have og4_17 := own_keep og4_16 b17 (Nat.le_refl _)
  clear og4_16
  have ox5_17 := own_keep ox5_16 b17 (Nat.le_refl _)
  clear ox5_16
  have og7_17 := own_keep og7_16 b17 (Nat.le_refl _)
  clear og7_16
  have og15_17 := own_keep og15_16 b17 (Nat.le_refl _)
  clear og15_16
  have xp0_17 := XP0_16.out.below b17 XP0_16.out.lt
  clear XP0_16
  have xv6_17 := XV6_16.out.below b17 XV6_16.out.lt
  clear XV6_16
  have cp0_0 : w17.cell? ⟨w.heap.size, 0, none⟩ = some (.int .i64 l0) := by rw [xp0_17.cell]; rfl
  have cp0_1 : w17.cell? ⟨w.heap.size, 1, none⟩ = some (.slice A0 n0 c0) := by rw [xp0_17.cell]; rfl
  have lp0 := xp0_17.lt
  have XP0_17 := Lib.hid xp0_17
  clear xp0_17
  have cv6_0 : w17.cell? ⟨w5.heap.size, 0, none⟩ = some (.int .i64 l0) := by rw [xv6_17.cell]; rfl
  have cv6_1 : w17.cell? ⟨w5.heap.size, 1, none⟩ = some (.slice B5 n0 d5) := by rw [xv6_17.cell]; rfl
  have lv6 := xv6_17.lt
  have XV6_17 := Lib.hid xv6_17
  clear xv6_17
  go_wp2_with fail
  go_ret
  exact ⟨rfl, t17⟩
  
set_option maxRecDepth 100000 in
theorem lifted_EqualWords (os : Os) (started : os.Started) (H : Type) (enc : TypeId × Value → H) :
    ReturnsInHanded {} Try.checked os 8 .any (Rows.fnExactEqualWordsSpec.pre6 enc Try.prog Try.f8 Rows.fnExactEqualWordsRow.domain false) (Rows.fnExactEqualWordsSpec.post enc Try.prog Try.f8 false true false false) := by
  refine returnsInHanded_of_change (C := Try.checked) own_knob started (by kernel_rfl) Try.func8
    (ChangeSpec.witness6 (enc := enc) (C := Try.checked) false ⟨#[], #[.agg #[.int .i64 0, .slice none 0 0], .string ⟨#[]⟩, .int .i64 0], []⟩ 8 (by kernel_rfl) (by kernel_rfl) (by kernel_rfl) (by kernel_rfl)) ?_
  intro W base args ds gs before hval0 hW _ _
  have hval : ∀ (j : Nat) t v, Try.f8.params[j]? = some t → args[j]? = some v → Value.okWide Try.prog W .any base t v := hval0
  have hW' := hW
  obtain ⟨p, q, hA0, hV, rfl, hfz, hnd⟩ := hW
  have hA : DataW.TrodAll enc Try.prog W 0 (fun _ => true) true Try.f8.params.toList args.toList ds p := hA0
  rw [Try.params8] at hA hval
  obtain ⟨v0, vs0, d0, ds0, p0, q0, hargs, rfl, rfl, h0, r0⟩ := trodAll_cons hA
  obtain ⟨v1, vs1, d1, ds1, p1, q1, rfl, rfl, rfl, h1, r1⟩ := trodAll_cons r0
  obtain ⟨v2, vs2, d2, ds2, p2, q2, rfl, rfl, rfl, h2, r2⟩ := trodAll_cons r1
  obtain ⟨rfl, rfl, rfl⟩ := trodAll_nil r2
  obtain rfl : args = #[v0, v1, v2] := by cases args; simp_all
  obtain ⟨rfl, rfl⟩ := trodVars_none hV
  have k0 := h0
  have lt0 : ∀ x ∈ p0, x.block < W.heap.size := by obtain ⟨m, hm⟩ := k0; exact DataW.trod_lt m _ _ _ hm
  have k1 := h1
  have lt1 : ∀ x ∈ p1, x.block < W.heap.size := by obtain ⟨m, hm⟩ := k1; exact DataW.trod_lt m _ _ _ hm
  have k2 := h2
  have lt2 : ∀ x ∈ p2, x.block < W.heap.size := by obtain ⟨m, hm⟩ := k2; exact DataW.trod_lt m _ _ _ hm
  obtain ⟨z0, R0⟩ := open_system (hval 0 82 v0 rfl rfl) h0
  obtain ⟨a1, rfl, rfl, rfl, wf1⟩ := Go.ChangeMaps.open_string Try.underlying9 (hval 1 9 v1 rfl rfl) h1
  obtain ⟨a2, rfl, rfl, rfl, wf2⟩ := open_int Try.underlying3 (hval 2 3 v2 rfl rfl) h2
  clear hA0 hval0
  refine (law_EqualWords W v0 z0 R0 a1 wf1 a2 wf2).mono fun e W' ⟨he, bel⟩ => ?_
  subst he
  exact ⟨_, rfl, _, _, _, [], _, [], hW', trodAll_mk1 (shut_bool Try.underlying4 _), (trodAll_cons_mk (Below.trod laid_out (by kernel_rfl) (of_decide_eq_true (by kernel_rfl)) k0 bel lt0) (trodAll_cons_mk (Below.trod laid_out (by kernel_rfl) (of_decide_eq_true (by kernel_rfl)) k1 bel lt1) (trodAll_cons_mk (Below.trod laid_out (by kernel_rfl) (of_decide_eq_true (by kernel_rfl)) k2 bel lt2) trodAll_mk0))), rfl, bel.frame _, fun h => by cases h⟩

theorem EqualWords_holds : Rows.FnExactEqualWordsSaid :=
  OpenClaim.holds_of_wide 8 Try.f8 rfl rfl rfl rfl rfl rfl rfl ⟨rfl, rfl, rfl, rfl, rfl⟩ rfl rfl rfl rfl rfl (by kernel_rfl) Try.func8 (by kernel_rfl)
    (of_decide_eq_true (by kernel_rfl)) (by unfold Func.isWrapper; first | (rw [if_pos (by decide +kernel)]; kernel_rfl) | (rw [if_neg (by decide +kernel)]; exact ⟨rfl, rfl⟩))
    (fun os started H enc _ => lifted_EqualWords os started H enc)

end Go.Proofs.Ytidmbeeadbedaaa
