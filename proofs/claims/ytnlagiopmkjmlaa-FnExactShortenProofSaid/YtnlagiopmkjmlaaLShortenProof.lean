/- For every input the law FnExactShortenProof returns true and leaves its arguments as they were. No condition. -/
import Derived.Test.YtnlagiopmkjmlaaShR
import Derived.Test.YtnlagiopmkjmlaaLinkTo
import Derived.Test.YtnlagiopmkjmlaaRuleTo
import Derived.Test.YtnlagiopmkjmlaaMg11
import Derived.Test.YtnlagiopmkjmlaaMg9
namespace Go.Proofs.Ytnlagiopmkjmlaa
open Go.ChangeShapes Go.WideShapes Go.ChangeAt Go.RowKit Go.Shelf

set_option maxRecDepth 100000 in
set_option maxHeartbeats 1000000 in
theorem law_ShortenProof (w : World) (v0 : Value) (z0 : Int × Option Addr × Nat × Nat × List RuleT) (R0 : OpenSystem w v0 z0) (s : ByteArray) (hw1 : s.size ≤ maxLen) (A2 : Option Addr) (n2 c2 : Nat) (ls : List LinkT) (R2 : OpenSlLinks w A2 n2 ls) :
    Calls Try.prog 7 #[v0, .string s, .slice A2 n2 c2] w (Kept w (.bool true)) := by
  obtain ⟨l0, A0, n0, c0, rs⟩ := z0
  obtain ⟨rfl, hr0, hn0, hm0, hz0⟩ := R0
  dsimp only at hr0 hn0 hm0 hz0
  obtain ⟨hr2, hn2, hm2, hz2⟩ := R2
  unfold maxLen at hw1
  by_cases hb1 : s.size ≤ 1048576
  rotate_left
  · skip
    go_enter Try.func7, Try.ntmps7
    go_wp2_with fail
    go_ret
    exact ⟨rfl, (by repeat (first | exact Below.refl _ _ | (refine Below.alloc ?_ (by simp <;> omega) _)))⟩
  have Hn0 := Lib.hid hn0
  clear hn0
  have Hn2 := Lib.hid hn2
  clear hn2
  go_enter Try.func7, Try.ntmps7
  go_wp2_with fail
  generalize hq : (w.alloc (.cells #[.int .i64 l0, .slice A0 n0 c0] 24)) = w1
  have b1 : Below w.heap.size w w1 := by rw [← hq]; exact ((Below.refl _ _).alloc (by simp <;> omega) _)
  have t1 := b1
  have xp0_1 : Bk w1 (w.heap.size) 24 #[.int .i64 l0, .slice A0 n0 c0] := by rw [← hq]; exact ((Bk.new w 24 #[.int .i64 l0, .slice A0 n0 c0])).cast (by simp)
  clear hq
  have cp0_0 : w1.cell? ⟨w.heap.size, 0, none⟩ = some (.int .i64 l0) := by rw [xp0_1.cell]; rfl
  have cp0_1 : w1.cell? ⟨w.heap.size, 1, none⟩ = some (.slice A0 n0 c0) := by rw [xp0_1.cell]; rfl
  have lp0 := xp0_1.lt
  have XP0_1 := Lib.hid xp0_1
  clear xp0_1
  (try go_wp2_with fail)
  (with_reducible refine (szSystem_any l0 A0 n0 c0 rs 1048576 _ (hr0.keep t1) Hn0.out hm0 (by omega) (by omega) hz0).mono ?_)
  rintro e w2 ⟨rfl, b2⟩
  have t2 := t1.trans (b2.mono t1.size)
  clear lp0 cp0_0 cp0_1
  have xp0_2 := XP0_1.out.below b2 XP0_1.out.lt
  clear XP0_1
  have cp0_0 : w2.cell? ⟨w.heap.size, 0, none⟩ = some (.int .i64 l0) := by rw [xp0_2.cell]; rfl
  have cp0_1 : w2.cell? ⟨w.heap.size, 1, none⟩ = some (.slice A0 n0 c0) := by rw [xp0_2.cell]; rfl
  have lp0 := xp0_2.lt
  have XP0_2 := Lib.hid xp0_2
  clear xp0_2
  by_cases ht0 : (1048576 : Int) - (totRule rs : Nat) < 0
  · rw [szLeft, if_pos ht0]
    go_wp2_with fail
    go_ret
    exact ⟨rfl, t2⟩
  rw [szLeft, if_neg ht0]
  have hs0 : totRule rs ≤ 1048576 := by omega
  have hb0 : n0 ≤ 1048576 := by have := tot_len_rules rs; have := Hn0.out; omega
  have hy0 := tot_all_rules rs hs0
  have hl0 : (0 : Int) ≤ 1048576 - (totRule rs : Nat) := by omega
  clear ht0
  go_wp2_with fail
  (with_reducible refine (szLinkS_any A2 n2 c2 ls (1048576 - (totRule rs : Nat)) _  Hn2.out hm2 (by omega) (by omega)).mono ?_)
  rintro e w3 ⟨rfl, b3⟩
  have t3 := t2.trans (b3.mono t2.size)
  clear lp0 cp0_0 cp0_1
  have xp0_3 := XP0_2.out.below b3 XP0_2.out.lt
  clear XP0_2
  have cp0_0 : w3.cell? ⟨w.heap.size, 0, none⟩ = some (.int .i64 l0) := by rw [xp0_3.cell]; rfl
  have cp0_1 : w3.cell? ⟨w.heap.size, 1, none⟩ = some (.slice A0 n0 c0) := by rw [xp0_3.cell]; rfl
  have lp0 := xp0_3.lt
  have XP0_3 := Lib.hid xp0_3
  clear xp0_3
  by_cases ht2 : ((1048576 - (totRule rs : Nat)) : Int) - (totLink ls : Nat) < 0
  · rw [szLeft, if_pos ht2]
    go_wp2_with fail
    go_ret
    exact ⟨rfl, t3⟩
  rw [szLeft, if_neg ht2]
  have hs2 : totLink ls ≤ 1048576 := by omega
  have hb2 : n2 ≤ 1048576 := by have := tot_len_links ls; have := Hn2.out; omega
  have hl2 : (0 : Int) ≤ (1048576 - (totRule rs : Nat)) - (totLink ls : Nat) := by omega
  clear ht2
  go_wp2_with fail
  (with_reducible refine (toSystem_any l0 A0 n0 c0 rs _ (hr0.keep t3) Hn0.out hb0 hy0).mono ?_)
  rintro e w4 ⟨B4, d4, rfl, ox4_4, b4⟩
  have t4 := t3.trans (b4.mono t3.size)
  clear lp0 cp0_0 cp0_1
  have xp0_4 := XP0_3.out.below b4 XP0_3.out.lt
  clear XP0_3
  have cp0_0 : w4.cell? ⟨w.heap.size, 0, none⟩ = some (.int .i64 l0) := by rw [xp0_4.cell]; rfl
  have cp0_1 : w4.cell? ⟨w.heap.size, 1, none⟩ = some (.slice A0 n0 c0) := by rw [xp0_4.cell]; rfl
  have lp0 := xp0_4.lt
  have XP0_4 := Lib.hid xp0_4
  clear xp0_4
  go_wp2_with fail
  (with_reducible refine (toLinkS_any A2 n2 c2 ls _ (hr2.keep t4) Hn2.out hb2).mono ?_)
  rintro e w5 ⟨B5, d5, rfl, ox5_5, b5⟩
  have t5 := t4.trans (b5.mono t4.size)
  have a_x4_x5 := Lib.hid (own_apart ox4_4 ox5_5 (Nat.le_refl _))
  have a_x5_x4 := Lib.hid (own_apart' ox5_5 ox4_4 (Nat.le_refl _))
  clear lp0 cp0_0 cp0_1
  have ox4_5 := own_keep ox4_4 b5 (Nat.le_refl _)
  clear ox4_4
  have xp0_5 := XP0_4.out.below b5 XP0_4.out.lt
  clear XP0_4
  have cp0_0 : w5.cell? ⟨w.heap.size, 0, none⟩ = some (.int .i64 l0) := by rw [xp0_5.cell]; rfl
  have cp0_1 : w5.cell? ⟨w.heap.size, 1, none⟩ = some (.slice A0 n0 c0) := by rw [xp0_5.cell]; rfl
  have lp0 := xp0_5.lt
  have XP0_5 := Lib.hid xp0_5
  clear xp0_5
  go_wp2_with fail
  (with_reducible refine (specShortenProof_any l0 B4 n0 d4 rs s B5 n2 d5 ls _ (Rd.of_own ox4_5) Hn0.out hb0 hy0 hb1 (Rd.of_own ox5_5) Hn2.out hb2).mono ?_)
  rintro e w6 ⟨B6, d6, rfl, og6_6, b6⟩
  have t6 := t5.trans (b6.mono t5.size)
  have a_x4_g6 := Lib.hid (own_apart ox4_5 og6_6 (Nat.le_refl _))
  have a_g6_x4 := Lib.hid (own_apart' og6_6 ox4_5 (Nat.le_refl _))
  have a_x5_g6 := Lib.hid (own_apart ox5_5 og6_6 (Nat.le_refl _))
  have a_g6_x5 := Lib.hid (own_apart' og6_6 ox5_5 (Nat.le_refl _))
  clear lp0 cp0_0 cp0_1
  have ox4_6 := own_keep ox4_5 b6 (Nat.le_refl _)
  clear ox4_5
  have ox5_6 := own_keep ox5_5 b6 (Nat.le_refl _)
  clear ox5_5
  have xp0_6 := XP0_5.out.below b6 XP0_5.out.lt
  clear XP0_5
  have cp0_0 : w6.cell? ⟨w.heap.size, 0, none⟩ = some (.int .i64 l0) := by rw [xp0_6.cell]; rfl
  have cp0_1 : w6.cell? ⟨w.heap.size, 1, none⟩ = some (.slice A0 n0 c0) := by rw [xp0_6.cell]; rfl
  have lp0 := xp0_6.lt
  have XP0_6 := Lib.hid xp0_6
  clear xp0_6
  clear ox4_6
  clear ox5_6
  go_wp2_with fail
  (with_reducible refine (toSystem_any l0 A0 n0 c0 rs _ (hr0.keep t6) Hn0.out hb0 hy0).mono ?_)
  rintro e w7 ⟨B7, d7, rfl, ox7_7, b7⟩
  have t7 := t6.trans (b7.mono t6.size)
  have a_g6_x7 := Lib.hid (own_apart og6_6 ox7_7 (Nat.le_refl _))
  have a_x7_g6 := Lib.hid (own_apart' ox7_7 og6_6 (Nat.le_refl _))
  clear lp0 cp0_0 cp0_1
  have og6_7 := own_keep og6_6 b7 (Nat.le_refl _)
  clear og6_6
  have xp0_7 := XP0_6.out.below b7 XP0_6.out.lt
  clear XP0_6
  have cp0_0 : w7.cell? ⟨w.heap.size, 0, none⟩ = some (.int .i64 l0) := by rw [xp0_7.cell]; rfl
  have cp0_1 : w7.cell? ⟨w.heap.size, 1, none⟩ = some (.slice A0 n0 c0) := by rw [xp0_7.cell]; rfl
  have lp0 := xp0_7.lt
  have XP0_7 := Lib.hid xp0_7
  clear xp0_7
  go_wp2_with fail
  generalize hq : w7.alloc (.cells #[.int .i64 l0, .slice B7 n0 d7] 29) = w8
  have b8 : Below w7.heap.size w7 w8 := by rw [← hq]; exact (Below.refl _ _).alloc (Nat.le_refl _) _
  have t8 := t7.trans (b8.mono t7.size)
  have xv8_8 : Bk w8 w7.heap.size 29 #[.int .i64 l0, .slice B7 n0 d7] := by rw [← hq]; exact Bk.new _ _ _
  clear hq
  clear lp0 cp0_0 cp0_1
  have og6_8 := own_keep og6_7 b8 (Nat.le_refl _)
  clear og6_7
  have ox7_8 := own_keep ox7_7 b8 (Nat.le_refl _)
  clear ox7_7
  have xp0_8 := XP0_7.out.below b8 XP0_7.out.lt
  clear XP0_7
  have cp0_0 : w8.cell? ⟨w.heap.size, 0, none⟩ = some (.int .i64 l0) := by rw [xp0_8.cell]; rfl
  have cp0_1 : w8.cell? ⟨w.heap.size, 1, none⟩ = some (.slice A0 n0 c0) := by rw [xp0_8.cell]; rfl
  have lp0 := xp0_8.lt
  have XP0_8 := Lib.hid xp0_8
  clear xp0_8
  have cv8_0 : w8.cell? ⟨w7.heap.size, 0, none⟩ = some (.int .i64 l0) := by rw [xv8_8.cell]; rfl
  have cv8_1 : w8.cell? ⟨w7.heap.size, 1, none⟩ = some (.slice B7 n0 d7) := by rw [xv8_8.cell]; rfl
  have lv8 := xv8_8.lt
  have XV8_8 := Lib.hid xv8_8
  clear xv8_8
  (try go_wp2_with fail)
  (with_reducible refine (toLinkS_any A2 n2 c2 ls _ (hr2.keep t8) Hn2.out hb2).mono ?_)
  rintro e w9 ⟨B9, d9, rfl, ox9_9, b9⟩
  have t9 := t8.trans (b9.mono t8.size)
  have a_g6_x9 := Lib.hid (own_apart og6_8 ox9_9 (Nat.le_refl _))
  have a_x9_g6 := Lib.hid (own_apart' ox9_9 og6_8 (Nat.le_refl _))
  have a_x7_x9 := Lib.hid (own_apart ox7_8 ox9_9 (Nat.le_refl _))
  have a_x9_x7 := Lib.hid (own_apart' ox9_9 ox7_8 (Nat.le_refl _))
  clear lp0 cp0_0 cp0_1
  clear lv8 cv8_0 cv8_1
  have og6_9 := own_keep og6_8 b9 (Nat.le_refl _)
  clear og6_8
  have ox7_9 := own_keep ox7_8 b9 (Nat.le_refl _)
  clear ox7_8
  have xp0_9 := XP0_8.out.below b9 XP0_8.out.lt
  clear XP0_8
  have xv8_9 := XV8_8.out.below b9 XV8_8.out.lt
  clear XV8_8
  have cp0_0 : w9.cell? ⟨w.heap.size, 0, none⟩ = some (.int .i64 l0) := by rw [xp0_9.cell]; rfl
  have cp0_1 : w9.cell? ⟨w.heap.size, 1, none⟩ = some (.slice A0 n0 c0) := by rw [xp0_9.cell]; rfl
  have lp0 := xp0_9.lt
  have XP0_9 := Lib.hid xp0_9
  clear xp0_9
  have cv8_0 : w9.cell? ⟨w7.heap.size, 0, none⟩ = some (.int .i64 l0) := by rw [xv8_9.cell]; rfl
  have cv8_1 : w9.cell? ⟨w7.heap.size, 1, none⟩ = some (.slice B7 n0 d7) := by rw [xv8_9.cell]; rfl
  have lv8 := xv8_9.lt
  have XV8_9 := Lib.hid xv8_9
  clear xv8_9
  go_wp2_with fail
  (with_reducible refine (implShortenProof_any l0 B7 n0 d7 rs s B9 n2 d9 ls _ (Rd.of_own ox7_9) Hn0.out hb0 hy0 hb1 (Rd.of_own ox9_9) Hn2.out hb2).mono ?_)
  rintro e w10 ⟨B10, d10, rfl, og10_10, b10⟩
  have t10 := t9.trans (b10.mono t9.size)
  have a_g6_g10 := Lib.hid (own_apart og6_9 og10_10 (Nat.le_refl _))
  have a_g10_g6 := Lib.hid (own_apart' og10_10 og6_9 (Nat.le_refl _))
  have a_x7_g10 := Lib.hid (own_apart ox7_9 og10_10 (Nat.le_refl _))
  have a_g10_x7 := Lib.hid (own_apart' og10_10 ox7_9 (Nat.le_refl _))
  have a_x9_g10 := Lib.hid (own_apart ox9_9 og10_10 (Nat.le_refl _))
  have a_g10_x9 := Lib.hid (own_apart' og10_10 ox9_9 (Nat.le_refl _))
  clear lp0 cp0_0 cp0_1
  clear lv8 cv8_0 cv8_1
  have og6_10 := own_keep og6_9 b10 (Nat.le_refl _)
  clear og6_9
  have ox7_10 := own_keep ox7_9 b10 (Nat.le_refl _)
  clear ox7_9
  have ox9_10 := own_keep ox9_9 b10 (Nat.le_refl _)
  clear ox9_9
  have xp0_10 := XP0_9.out.below b10 XP0_9.out.lt
  clear XP0_9
  have xv8_10 := XV8_9.out.below b10 XV8_9.out.lt
  clear XV8_9
  have cp0_0 : w10.cell? ⟨w.heap.size, 0, none⟩ = some (.int .i64 l0) := by rw [xp0_10.cell]; rfl
  have cp0_1 : w10.cell? ⟨w.heap.size, 1, none⟩ = some (.slice A0 n0 c0) := by rw [xp0_10.cell]; rfl
  have lp0 := xp0_10.lt
  have XP0_10 := Lib.hid xp0_10
  clear xp0_10
  have cv8_0 : w10.cell? ⟨w7.heap.size, 0, none⟩ = some (.int .i64 l0) := by rw [xv8_10.cell]; rfl
  have cv8_1 : w10.cell? ⟨w7.heap.size, 1, none⟩ = some (.slice B7 n0 d7) := by rw [xv8_10.cell]; rfl
  have lv8 := xv8_10.lt
  have XV8_10 := Lib.hid xv8_10
  clear xv8_10
  go_wp2_with fail
  (with_reducible refine (eqLinkS_k B10 ((shpL l0 rs s ls).length) d10 (shpL l0 rs s ls)  B6 ((shpL l0 rs s ls).length) d6 (shpL l0 rs s ls) _ (Rd.of_own og10_10) rfl (le_big (shpL_len l0 rs s ls)) (Rd.of_own og6_10) rfl (le_big (shpL_len l0 rs s ls))).mono ?_)
  rintro e w11 ⟨rfl, b11⟩
  have t11 := t10.trans (b11.mono t10.size)
  clear lp0 cp0_0 cp0_1
  clear lv8 cv8_0 cv8_1
  have og6_11 := own_keep og6_10 b11 (Nat.le_refl _)
  clear og6_10
  have ox7_11 := own_keep ox7_10 b11 (Nat.le_refl _)
  clear ox7_10
  have ox9_11 := own_keep ox9_10 b11 (Nat.le_refl _)
  clear ox9_10
  have og10_11 := own_keep og10_10 b11 (Nat.le_refl _)
  clear og10_10
  have xp0_11 := XP0_10.out.below b11 XP0_10.out.lt
  clear XP0_10
  have xv8_11 := XV8_10.out.below b11 XV8_10.out.lt
  clear XV8_10
  have cp0_0 : w11.cell? ⟨w.heap.size, 0, none⟩ = some (.int .i64 l0) := by rw [xp0_11.cell]; rfl
  have cp0_1 : w11.cell? ⟨w.heap.size, 1, none⟩ = some (.slice A0 n0 c0) := by rw [xp0_11.cell]; rfl
  have lp0 := xp0_11.lt
  have XP0_11 := Lib.hid xp0_11
  clear xp0_11
  have cv8_0 : w11.cell? ⟨w7.heap.size, 0, none⟩ = some (.int .i64 l0) := by rw [xv8_11.cell]; rfl
  have cv8_1 : w11.cell? ⟨w7.heap.size, 1, none⟩ = some (.slice B7 n0 d7) := by rw [xv8_11.cell]; rfl
  have lv8 := xv8_11.lt
  have XV8_11 := Lib.hid xv8_11
  clear xv8_11
  go_wp2_with fail
  have eS : ∀ w', Below w11.drew.heap.size w11.drew w' → w'.cell? ⟨w.heap.size, 0, none⟩ = some (.int .i64 l0) ∧ w'.cell? ⟨w.heap.size, 1, none⟩ = some (.slice A0 n0 c0) ∧ w'.cell? ⟨w7.heap.size, 0, none⟩ = some (.int .i64 l0) ∧ w'.cell? ⟨w7.heap.size, 1, none⟩ = some (.slice B7 n0 d7) := fun w' hb => ⟨(hb.cell (p := ⟨w.heap.size, 0, none⟩) XP0_11.out.lt).trans cp0_0, (hb.cell (p := ⟨w.heap.size, 1, none⟩) XP0_11.out.lt).trans cp0_1, (hb.cell (p := ⟨w7.heap.size, 0, none⟩) XV8_11.out.lt).trans cv8_0, (hb.cell (p := ⟨w7.heap.size, 1, none⟩) XV8_11.out.lt).trans cv8_1⟩
  have zS := eS _ (Below.refl _ _)
  have ES := Lib.hid eS
  clear eS
  have ZS := Lib.hid zS
  clear zS
  go_region_held3 (fun w' => w'.cell? ⟨w.heap.size, 0, none⟩ = some (.int .i64 l0) ∧ w'.cell? ⟨w.heap.size, 1, none⟩ = some (.slice A0 n0 c0) ∧ w'.cell? ⟨w7.heap.size, 0, none⟩ = some (.int .i64 l0) ∧ w'.cell? ⟨w7.heap.size, 1, none⟩ = some (.slice B7 n0 d7)) (first | exact ZS.out | assumption) ((first | ((with_reducible refine (toSystem_any l0 A0 n0 c0 rs _ (Rd.drew (hr0.keep t11)) Hn0.out hb0 hy0).mono ?_); rintro e y11 ⟨B12, d12, rfl, oy11, hU1⟩; have hS1 := ES.out _ hU1; have oz11 := own_keep (w := w11.drew) ox7_11 hU1 (Nat.le_refl _)) | ((with_reducible refine (eqSystem_k l0 B7 n0 d7 rs l0 B12 n0 d12 rs _ (Rd.of_own oz11) Hn0.out (le_big hb0) (Rd.of_own oy11) Hn0.out (le_big hb0)).mono ?_); rintro e w12 ⟨rfl, hU2⟩; have hU3 := hU1.trans (hU2.mono hU1.size); have hS2 := ES.out _ hU3)))
  have b12 : Below w11.heap.size w11 w12 := ((Below.refl _ _).drew).trans hU3
  have t12 := t11.trans (b12.mono t11.size)
  clear hU1 hU2 hU3 hS1 hS2 ES ZS oy11 oz11
  clear lp0 cp0_0 cp0_1
  clear lv8 cv8_0 cv8_1
  have og6_12 := own_keep og6_11 b12 (Nat.le_refl _)
  clear og6_11
  have ox7_12 := own_keep ox7_11 b12 (Nat.le_refl _)
  clear ox7_11
  have ox9_12 := own_keep ox9_11 b12 (Nat.le_refl _)
  clear ox9_11
  have og10_12 := own_keep og10_11 b12 (Nat.le_refl _)
  clear og10_11
  have xp0_12 := XP0_11.out.below b12 XP0_11.out.lt
  clear XP0_11
  have xv8_12 := XV8_11.out.below b12 XV8_11.out.lt
  clear XV8_11
  have cp0_0 : w12.cell? ⟨w.heap.size, 0, none⟩ = some (.int .i64 l0) := by rw [xp0_12.cell]; rfl
  have cp0_1 : w12.cell? ⟨w.heap.size, 1, none⟩ = some (.slice A0 n0 c0) := by rw [xp0_12.cell]; rfl
  have lp0 := xp0_12.lt
  have XP0_12 := Lib.hid xp0_12
  clear xp0_12
  have cv8_0 : w12.cell? ⟨w7.heap.size, 0, none⟩ = some (.int .i64 l0) := by rw [xv8_12.cell]; rfl
  have cv8_1 : w12.cell? ⟨w7.heap.size, 1, none⟩ = some (.slice B7 n0 d7) := by rw [xv8_12.cell]; rfl
  have lv8 := xv8_12.lt
  have XV8_12 := Lib.hid xv8_12
  clear xv8_12
  go_wp2_with fail
  (with_reducible refine (toLinkS_any A2 n2 c2 ls _ (hr2.keep t12) Hn2.out hb2).mono ?_)
  rintro e w13 ⟨B13, d13, rfl, ox13_13, b13⟩
  have t13 := t12.trans (b13.mono t12.size)
  have a_g6_x13 := Lib.hid (own_apart og6_12 ox13_13 (Nat.le_refl _))
  have a_x13_g6 := Lib.hid (own_apart' ox13_13 og6_12 (Nat.le_refl _))
  have a_x7_x13 := Lib.hid (own_apart ox7_12 ox13_13 (Nat.le_refl _))
  have a_x13_x7 := Lib.hid (own_apart' ox13_13 ox7_12 (Nat.le_refl _))
  have a_x9_x13 := Lib.hid (own_apart ox9_12 ox13_13 (Nat.le_refl _))
  have a_x13_x9 := Lib.hid (own_apart' ox13_13 ox9_12 (Nat.le_refl _))
  have a_g10_x13 := Lib.hid (own_apart og10_12 ox13_13 (Nat.le_refl _))
  have a_x13_g10 := Lib.hid (own_apart' ox13_13 og10_12 (Nat.le_refl _))
  clear lp0 cp0_0 cp0_1
  clear lv8 cv8_0 cv8_1
  have og6_13 := own_keep og6_12 b13 (Nat.le_refl _)
  clear og6_12
  have ox7_13 := own_keep ox7_12 b13 (Nat.le_refl _)
  clear ox7_12
  have ox9_13 := own_keep ox9_12 b13 (Nat.le_refl _)
  clear ox9_12
  have og10_13 := own_keep og10_12 b13 (Nat.le_refl _)
  clear og10_12
  have xp0_13 := XP0_12.out.below b13 XP0_12.out.lt
  clear XP0_12
  have xv8_13 := XV8_12.out.below b13 XV8_12.out.lt
  clear XV8_12
  have cp0_0 : w13.cell? ⟨w.heap.size, 0, none⟩ = some (.int .i64 l0) := by rw [xp0_13.cell]; rfl
  have cp0_1 : w13.cell? ⟨w.heap.size, 1, none⟩ = some (.slice A0 n0 c0) := by rw [xp0_13.cell]; rfl
  have lp0 := xp0_13.lt
  have XP0_13 := Lib.hid xp0_13
  clear xp0_13
  have cv8_0 : w13.cell? ⟨w7.heap.size, 0, none⟩ = some (.int .i64 l0) := by rw [xv8_13.cell]; rfl
  have cv8_1 : w13.cell? ⟨w7.heap.size, 1, none⟩ = some (.slice B7 n0 d7) := by rw [xv8_13.cell]; rfl
  have lv8 := xv8_13.lt
  have XV8_13 := Lib.hid xv8_13
  clear xv8_13
  go_wp2_with fail
  (with_reducible refine (eqLinkS_k B9 n2 d9 ls  B13 n2 d13 ls _ (Rd.of_own ox9_13) Hn2.out (le_big hb2) (Rd.of_own ox13_13) Hn2.out (le_big hb2)).mono ?_)
  rintro e w14 ⟨rfl, b14⟩
  have t14 := t13.trans (b14.mono t13.size)
  clear lp0 cp0_0 cp0_1
  clear lv8 cv8_0 cv8_1
  have og6_14 := own_keep og6_13 b14 (Nat.le_refl _)
  clear og6_13
  have ox7_14 := own_keep ox7_13 b14 (Nat.le_refl _)
  clear ox7_13
  have ox9_14 := own_keep ox9_13 b14 (Nat.le_refl _)
  clear ox9_13
  have og10_14 := own_keep og10_13 b14 (Nat.le_refl _)
  clear og10_13
  have ox13_14 := own_keep ox13_13 b14 (Nat.le_refl _)
  clear ox13_13
  have xp0_14 := XP0_13.out.below b14 XP0_13.out.lt
  clear XP0_13
  have xv8_14 := XV8_13.out.below b14 XV8_13.out.lt
  clear XV8_13
  have cp0_0 : w14.cell? ⟨w.heap.size, 0, none⟩ = some (.int .i64 l0) := by rw [xp0_14.cell]; rfl
  have cp0_1 : w14.cell? ⟨w.heap.size, 1, none⟩ = some (.slice A0 n0 c0) := by rw [xp0_14.cell]; rfl
  have lp0 := xp0_14.lt
  have XP0_14 := Lib.hid xp0_14
  clear xp0_14
  have cv8_0 : w14.cell? ⟨w7.heap.size, 0, none⟩ = some (.int .i64 l0) := by rw [xv8_14.cell]; rfl
  have cv8_1 : w14.cell? ⟨w7.heap.size, 1, none⟩ = some (.slice B7 n0 d7) := by rw [xv8_14.cell]; rfl
  have lv8 := xv8_14.lt
  have XV8_14 := Lib.hid xv8_14
  clear xv8_14
  clear ox13_14
  go_wp2_with fail
  (with_reducible refine (markSystem_any l0 B7 n0 d7 _ 1 _ _ ox7_14 (by omega) (by have := hb0; omega)).mono ?_)
  rintro e w15 ⟨rfl, ox7_15, gr15⟩
  have t15 := below_marked t14 gr15 ox7_14 t6.size
  have og6_15 := og6_14.kept gr15 a_g6_x7.out
  clear og6_14
  have ox9_15 := ox9_14.kept gr15 a_x9_x7.out
  clear ox9_14
  have og10_15 := og10_14.kept gr15 a_g10_x7.out
  clear og10_14
  clear lp0 cp0_0 cp0_1
  clear lv8 cv8_0 cv8_1
  have xp0_15 := XP0_14.out.grown gr15 (own_bk_ne ox7_14 XP0_14.out (by decide))
  clear XP0_14
  have xv8_15 := XV8_14.out.grown gr15 (own_bk_ne ox7_14 XV8_14.out (by decide))
  clear XV8_14
  have cp0_0 : w15.cell? ⟨w.heap.size, 0, none⟩ = some (.int .i64 l0) := by rw [xp0_15.cell]; rfl
  have cp0_1 : w15.cell? ⟨w.heap.size, 1, none⟩ = some (.slice A0 n0 c0) := by rw [xp0_15.cell]; rfl
  have lp0 := xp0_15.lt
  have XP0_15 := Lib.hid xp0_15
  clear xp0_15
  have cv8_0 : w15.cell? ⟨w7.heap.size, 0, none⟩ = some (.int .i64 l0) := by rw [xv8_15.cell]; rfl
  have cv8_1 : w15.cell? ⟨w7.heap.size, 1, none⟩ = some (.slice B7 n0 d7) := by rw [xv8_15.cell]; rfl
  have lv8 := xv8_15.lt
  have XV8_15 := Lib.hid xv8_15
  clear xv8_15
  clear ox7_14 gr15
  go_wp2_with fail
  (with_reducible refine (markLinkS_any B9 n2 d9 _ (1 + ((n0 : Nat) : Int) * 2) _ _ ox9_15 (by omega) (by have := hb2; omega)).mono ?_)
  rintro e w16 ⟨rfl, ox9_16, gr16⟩
  have t16 := below_marked t15 gr16 ox9_15 t8.size
  have og6_16 := og6_15.kept gr16 a_g6_x9.out
  clear og6_15
  have ox7_16 := ox7_15.kept gr16 a_x7_x9.out
  clear ox7_15
  have og10_16 := og10_15.kept gr16 a_g10_x9.out
  clear og10_15
  clear lp0 cp0_0 cp0_1
  clear lv8 cv8_0 cv8_1
  have xp0_16 := XP0_15.out.grown gr16 (own_bk_ne ox9_15 XP0_15.out (by decide))
  clear XP0_15
  have xv8_16 := XV8_15.out.grown gr16 (own_bk_ne ox9_15 XV8_15.out (by decide))
  clear XV8_15
  have cp0_0 : w16.cell? ⟨w.heap.size, 0, none⟩ = some (.int .i64 l0) := by rw [xp0_16.cell]; rfl
  have cp0_1 : w16.cell? ⟨w.heap.size, 1, none⟩ = some (.slice A0 n0 c0) := by rw [xp0_16.cell]; rfl
  have lp0 := xp0_16.lt
  have XP0_16 := Lib.hid xp0_16
  clear xp0_16
  have cv8_0 : w16.cell? ⟨w7.heap.size, 0, none⟩ = some (.int .i64 l0) := by rw [xv8_16.cell]; rfl
  have cv8_1 : w16.cell? ⟨w7.heap.size, 1, none⟩ = some (.slice B7 n0 d7) := by rw [xv8_16.cell]; rfl
  have lv8 := xv8_16.lt
  have XV8_16 := Lib.hid xv8_16
  clear xv8_16
  clear ox9_15 gr16
  go_wp2_with fail
  (with_reducible refine (eqLinkS_k B10 ((shpL l0 rs s ls).length) d10 (shpL l0 rs s ls)  B6 ((shpL l0 rs s ls).length) d6 (shpL l0 rs s ls) _ (Rd.of_own og10_16) rfl (le_big (shpL_len l0 rs s ls)) (Rd.of_own og6_16) rfl (le_big (shpL_len l0 rs s ls))).mono ?_)
  rintro e w17 ⟨rfl, b17⟩
  have t17 := t16.trans (b17.mono t16.size)
  clear lp0 cp0_0 cp0_1
  clear lv8 cv8_0 cv8_1
  have og6_17 := own_keep og6_16 b17 (Nat.le_refl _)
  clear og6_16
  have ox7_17 := own_keep ox7_16 b17 (Nat.le_refl _)
  clear ox7_16
  have ox9_17 := own_keep ox9_16 b17 (Nat.le_refl _)
  clear ox9_16
  have og10_17 := own_keep og10_16 b17 (Nat.le_refl _)
  clear og10_16
  have xp0_17 := XP0_16.out.below b17 XP0_16.out.lt
  clear XP0_16
  have xv8_17 := XV8_16.out.below b17 XV8_16.out.lt
  clear XV8_16
  have cp0_0 : w17.cell? ⟨w.heap.size, 0, none⟩ = some (.int .i64 l0) := by rw [xp0_17.cell]; rfl
  have cp0_1 : w17.cell? ⟨w.heap.size, 1, none⟩ = some (.slice A0 n0 c0) := by rw [xp0_17.cell]; rfl
  have lp0 := xp0_17.lt
  have XP0_17 := Lib.hid xp0_17
  clear xp0_17
  have cv8_0 : w17.cell? ⟨w7.heap.size, 0, none⟩ = some (.int .i64 l0) := by rw [xv8_17.cell]; rfl
  have cv8_1 : w17.cell? ⟨w7.heap.size, 1, none⟩ = some (.slice B7 n0 d7) := by rw [xv8_17.cell]; rfl
  have lv8 := xv8_17.lt
  have XV8_17 := Lib.hid xv8_17
  clear xv8_17
  go_wp2_with fail
  (with_reducible refine (markLinkS_any B10 ((shpL l0 rs s ls).length) d10 _ 1 _ _ og10_17 (by omega) (by have := (shpL_len l0 rs s ls); omega)).mono ?_)
  rintro e w18 ⟨rfl, og10_18, gr18⟩
  have t18 := below_marked t17 gr18 og10_17 t9.size
  have og6_18 := og6_17.kept gr18 a_g6_g10.out
  clear og6_17
  have ox7_18 := ox7_17.kept gr18 a_x7_g10.out
  clear ox7_17
  have ox9_18 := ox9_17.kept gr18 a_x9_g10.out
  clear ox9_17
  clear lp0 cp0_0 cp0_1
  clear lv8 cv8_0 cv8_1
  have xp0_18 := XP0_17.out.grown gr18 (own_bk_ne og10_17 XP0_17.out (by decide))
  clear XP0_17
  have xv8_18 := XV8_17.out.grown gr18 (own_bk_ne og10_17 XV8_17.out (by decide))
  clear XV8_17
  have cp0_0 : w18.cell? ⟨w.heap.size, 0, none⟩ = some (.int .i64 l0) := by rw [xp0_18.cell]; rfl
  have cp0_1 : w18.cell? ⟨w.heap.size, 1, none⟩ = some (.slice A0 n0 c0) := by rw [xp0_18.cell]; rfl
  have lp0 := xp0_18.lt
  have XP0_18 := Lib.hid xp0_18
  clear xp0_18
  have cv8_0 : w18.cell? ⟨w7.heap.size, 0, none⟩ = some (.int .i64 l0) := by rw [xv8_18.cell]; rfl
  have cv8_1 : w18.cell? ⟨w7.heap.size, 1, none⟩ = some (.slice B7 n0 d7) := by rw [xv8_18.cell]; rfl
  have lv8 := xv8_18.lt
  have XV8_18 := Lib.hid xv8_18
  clear xv8_18
  clear og10_17 gr18
  go_wp2_with fail
  (with_reducible refine (heldLinkS_k B10 ((shpL l0 rs s ls).length) d10 1 _ (Rd.of_own og10_18) (by omega) (by have := (shpL_len l0 rs s ls); omega)).mono ?_)
  rintro e w19 ⟨rfl, b19⟩
  have t19 := t18.trans (b19.mono t18.size)
  clear lp0 cp0_0 cp0_1
  clear lv8 cv8_0 cv8_1
  have og6_19 := own_keep og6_18 b19 (Nat.le_refl _)
  clear og6_18
  have ox7_19 := own_keep ox7_18 b19 (Nat.le_refl _)
  clear ox7_18
  have ox9_19 := own_keep ox9_18 b19 (Nat.le_refl _)
  clear ox9_18
  have og10_19 := own_keep og10_18 b19 (Nat.le_refl _)
  clear og10_18
  have xp0_19 := XP0_18.out.below b19 XP0_18.out.lt
  clear XP0_18
  have xv8_19 := XV8_18.out.below b19 XV8_18.out.lt
  clear XV8_18
  have cp0_0 : w19.cell? ⟨w.heap.size, 0, none⟩ = some (.int .i64 l0) := by rw [xp0_19.cell]; rfl
  have cp0_1 : w19.cell? ⟨w.heap.size, 1, none⟩ = some (.slice A0 n0 c0) := by rw [xp0_19.cell]; rfl
  have lp0 := xp0_19.lt
  have XP0_19 := Lib.hid xp0_19
  clear xp0_19
  have cv8_0 : w19.cell? ⟨w7.heap.size, 0, none⟩ = some (.int .i64 l0) := by rw [xv8_19.cell]; rfl
  have cv8_1 : w19.cell? ⟨w7.heap.size, 1, none⟩ = some (.slice B7 n0 d7) := by rw [xv8_19.cell]; rfl
  have lv8 := xv8_19.lt
  have XV8_19 := Lib.hid xv8_19
  clear xv8_19
  go_wp2_with fail
  (with_reducible refine (toSystem_any l0 A0 n0 c0 rs _ (hr0.keep t19) Hn0.out hb0 hy0).mono ?_)
  rintro e w20 ⟨B20, d20, rfl, ox20_20, b20⟩
  have t20 := t19.trans (b20.mono t19.size)
  have a_g6_x20 := Lib.hid (own_apart og6_19 ox20_20 (Nat.le_refl _))
  have a_x20_g6 := Lib.hid (own_apart' ox20_20 og6_19 (Nat.le_refl _))
  have a_x7_x20 := Lib.hid (own_apart ox7_19 ox20_20 (Nat.le_refl _))
  have a_x20_x7 := Lib.hid (own_apart' ox20_20 ox7_19 (Nat.le_refl _))
  have a_x9_x20 := Lib.hid (own_apart ox9_19 ox20_20 (Nat.le_refl _))
  have a_x20_x9 := Lib.hid (own_apart' ox20_20 ox9_19 (Nat.le_refl _))
  have a_g10_x20 := Lib.hid (own_apart og10_19 ox20_20 (Nat.le_refl _))
  have a_x20_g10 := Lib.hid (own_apart' ox20_20 og10_19 (Nat.le_refl _))
  clear lp0 cp0_0 cp0_1
  clear lv8 cv8_0 cv8_1
  have og6_20 := own_keep og6_19 b20 (Nat.le_refl _)
  clear og6_19
  have ox7_20 := own_keep ox7_19 b20 (Nat.le_refl _)
  clear ox7_19
  have ox9_20 := own_keep ox9_19 b20 (Nat.le_refl _)
  clear ox9_19
  have og10_20 := own_keep og10_19 b20 (Nat.le_refl _)
  clear og10_19
  have xp0_20 := XP0_19.out.below b20 XP0_19.out.lt
  clear XP0_19
  have xv8_20 := XV8_19.out.below b20 XV8_19.out.lt
  clear XV8_19
  have cp0_0 : w20.cell? ⟨w.heap.size, 0, none⟩ = some (.int .i64 l0) := by rw [xp0_20.cell]; rfl
  have cp0_1 : w20.cell? ⟨w.heap.size, 1, none⟩ = some (.slice A0 n0 c0) := by rw [xp0_20.cell]; rfl
  have lp0 := xp0_20.lt
  have XP0_20 := Lib.hid xp0_20
  clear xp0_20
  have cv8_0 : w20.cell? ⟨w7.heap.size, 0, none⟩ = some (.int .i64 l0) := by rw [xv8_20.cell]; rfl
  have cv8_1 : w20.cell? ⟨w7.heap.size, 1, none⟩ = some (.slice B7 n0 d7) := by rw [xv8_20.cell]; rfl
  have lv8 := xv8_20.lt
  have XV8_20 := Lib.hid xv8_20
  clear xv8_20
  go_wp2_with fail
  (with_reducible refine (toLinkS_any A2 n2 c2 ls _ (hr2.keep t20) Hn2.out hb2).mono ?_)
  rintro e w21 ⟨B21, d21, rfl, ox21_21, b21⟩
  have t21 := t20.trans (b21.mono t20.size)
  have a_g6_x21 := Lib.hid (own_apart og6_20 ox21_21 (Nat.le_refl _))
  have a_x21_g6 := Lib.hid (own_apart' ox21_21 og6_20 (Nat.le_refl _))
  have a_x7_x21 := Lib.hid (own_apart ox7_20 ox21_21 (Nat.le_refl _))
  have a_x21_x7 := Lib.hid (own_apart' ox21_21 ox7_20 (Nat.le_refl _))
  have a_x9_x21 := Lib.hid (own_apart ox9_20 ox21_21 (Nat.le_refl _))
  have a_x21_x9 := Lib.hid (own_apart' ox21_21 ox9_20 (Nat.le_refl _))
  have a_g10_x21 := Lib.hid (own_apart og10_20 ox21_21 (Nat.le_refl _))
  have a_x21_g10 := Lib.hid (own_apart' ox21_21 og10_20 (Nat.le_refl _))
  have a_x20_x21 := Lib.hid (own_apart ox20_20 ox21_21 (Nat.le_refl _))
  have a_x21_x20 := Lib.hid (own_apart' ox21_21 ox20_20 (Nat.le_refl _))
  clear lp0 cp0_0 cp0_1
  clear lv8 cv8_0 cv8_1
  have og6_21 := own_keep og6_20 b21 (Nat.le_refl _)
  clear og6_20
  have ox7_21 := own_keep ox7_20 b21 (Nat.le_refl _)
  clear ox7_20
  have ox9_21 := own_keep ox9_20 b21 (Nat.le_refl _)
  clear ox9_20
  have og10_21 := own_keep og10_20 b21 (Nat.le_refl _)
  clear og10_20
  have ox20_21 := own_keep ox20_20 b21 (Nat.le_refl _)
  clear ox20_20
  have xp0_21 := XP0_20.out.below b21 XP0_20.out.lt
  clear XP0_20
  have xv8_21 := XV8_20.out.below b21 XV8_20.out.lt
  clear XV8_20
  have cp0_0 : w21.cell? ⟨w.heap.size, 0, none⟩ = some (.int .i64 l0) := by rw [xp0_21.cell]; rfl
  have cp0_1 : w21.cell? ⟨w.heap.size, 1, none⟩ = some (.slice A0 n0 c0) := by rw [xp0_21.cell]; rfl
  have lp0 := xp0_21.lt
  have XP0_21 := Lib.hid xp0_21
  clear xp0_21
  have cv8_0 : w21.cell? ⟨w7.heap.size, 0, none⟩ = some (.int .i64 l0) := by rw [xv8_21.cell]; rfl
  have cv8_1 : w21.cell? ⟨w7.heap.size, 1, none⟩ = some (.slice B7 n0 d7) := by rw [xv8_21.cell]; rfl
  have lv8 := xv8_21.lt
  have XV8_21 := Lib.hid xv8_21
  clear xv8_21
  go_wp2_with fail
  (with_reducible refine (implShortenProof_any l0 B20 n0 d20 rs s B21 n2 d21 ls _ (Rd.of_own ox20_21) Hn0.out hb0 hy0 hb1 (Rd.of_own ox21_21) Hn2.out hb2).mono ?_)
  rintro e w22 ⟨B22, d22, rfl, og22_22, b22⟩
  have t22 := t21.trans (b22.mono t21.size)
  have a_g6_g22 := Lib.hid (own_apart og6_21 og22_22 (Nat.le_refl _))
  have a_g22_g6 := Lib.hid (own_apart' og22_22 og6_21 (Nat.le_refl _))
  have a_x7_g22 := Lib.hid (own_apart ox7_21 og22_22 (Nat.le_refl _))
  have a_g22_x7 := Lib.hid (own_apart' og22_22 ox7_21 (Nat.le_refl _))
  have a_x9_g22 := Lib.hid (own_apart ox9_21 og22_22 (Nat.le_refl _))
  have a_g22_x9 := Lib.hid (own_apart' og22_22 ox9_21 (Nat.le_refl _))
  have a_g10_g22 := Lib.hid (own_apart og10_21 og22_22 (Nat.le_refl _))
  have a_g22_g10 := Lib.hid (own_apart' og22_22 og10_21 (Nat.le_refl _))
  have a_x20_g22 := Lib.hid (own_apart ox20_21 og22_22 (Nat.le_refl _))
  have a_g22_x20 := Lib.hid (own_apart' og22_22 ox20_21 (Nat.le_refl _))
  have a_x21_g22 := Lib.hid (own_apart ox21_21 og22_22 (Nat.le_refl _))
  have a_g22_x21 := Lib.hid (own_apart' og22_22 ox21_21 (Nat.le_refl _))
  clear lp0 cp0_0 cp0_1
  clear lv8 cv8_0 cv8_1
  have og6_22 := own_keep og6_21 b22 (Nat.le_refl _)
  clear og6_21
  have ox7_22 := own_keep ox7_21 b22 (Nat.le_refl _)
  clear ox7_21
  have ox9_22 := own_keep ox9_21 b22 (Nat.le_refl _)
  clear ox9_21
  have og10_22 := own_keep og10_21 b22 (Nat.le_refl _)
  clear og10_21
  have ox20_22 := own_keep ox20_21 b22 (Nat.le_refl _)
  clear ox20_21
  have ox21_22 := own_keep ox21_21 b22 (Nat.le_refl _)
  clear ox21_21
  have xp0_22 := XP0_21.out.below b22 XP0_21.out.lt
  clear XP0_21
  have xv8_22 := XV8_21.out.below b22 XV8_21.out.lt
  clear XV8_21
  have cp0_0 : w22.cell? ⟨w.heap.size, 0, none⟩ = some (.int .i64 l0) := by rw [xp0_22.cell]; rfl
  have cp0_1 : w22.cell? ⟨w.heap.size, 1, none⟩ = some (.slice A0 n0 c0) := by rw [xp0_22.cell]; rfl
  have lp0 := xp0_22.lt
  have XP0_22 := Lib.hid xp0_22
  clear xp0_22
  have cv8_0 : w22.cell? ⟨w7.heap.size, 0, none⟩ = some (.int .i64 l0) := by rw [xv8_22.cell]; rfl
  have cv8_1 : w22.cell? ⟨w7.heap.size, 1, none⟩ = some (.slice B7 n0 d7) := by rw [xv8_22.cell]; rfl
  have lv8 := xv8_22.lt
  have XV8_22 := Lib.hid xv8_22
  clear xv8_22
  clear ox20_22
  clear ox21_22
  go_wp2_with fail
  (with_reducible refine (eqLinkS_k B22 ((shpL l0 rs s ls).length) d22 (shpL l0 rs s ls)  B6 ((shpL l0 rs s ls).length) d6 (shpL l0 rs s ls) _ (Rd.of_own og22_22) rfl (le_big (shpL_len l0 rs s ls)) (Rd.of_own og6_22) rfl (le_big (shpL_len l0 rs s ls))).mono ?_)
  rintro e w23 ⟨rfl, b23⟩
  have t23 := t22.trans (b23.mono t22.size)
  clear lp0 cp0_0 cp0_1
  clear lv8 cv8_0 cv8_1
  have og6_23 := own_keep og6_22 b23 (Nat.le_refl _)
  clear og6_22
  have ox7_23 := own_keep ox7_22 b23 (Nat.le_refl _)
  clear ox7_22
  have ox9_23 := own_keep ox9_22 b23 (Nat.le_refl _)
  clear ox9_22
  have og10_23 := own_keep og10_22 b23 (Nat.le_refl _)
  clear og10_22
  have og22_23 := own_keep og22_22 b23 (Nat.le_refl _)
  clear og22_22
  have xp0_23 := XP0_22.out.below b23 XP0_22.out.lt
  clear XP0_22
  have xv8_23 := XV8_22.out.below b23 XV8_22.out.lt
  clear XV8_22
  have cp0_0 : w23.cell? ⟨w.heap.size, 0, none⟩ = some (.int .i64 l0) := by rw [xp0_23.cell]; rfl
  have cp0_1 : w23.cell? ⟨w.heap.size, 1, none⟩ = some (.slice A0 n0 c0) := by rw [xp0_23.cell]; rfl
  have lp0 := xp0_23.lt
  have XP0_23 := Lib.hid xp0_23
  clear xp0_23
  have cv8_0 : w23.cell? ⟨w7.heap.size, 0, none⟩ = some (.int .i64 l0) := by rw [xv8_23.cell]; rfl
  have cv8_1 : w23.cell? ⟨w7.heap.size, 1, none⟩ = some (.slice B7 n0 d7) := by rw [xv8_23.cell]; rfl
  have lv8 := xv8_23.lt
  have XV8_23 := Lib.hid xv8_23
  clear xv8_23
  go_wp2_with fail
  (with_reducible refine (heldLinkS_k B10 ((shpL l0 rs s ls).length) d10 1 _ (Rd.of_own og10_23) (by omega) (by have := (shpL_len l0 rs s ls); omega)).mono ?_)
  rintro e w24 ⟨rfl, b24⟩
  have t24 := t23.trans (b24.mono t23.size)
  clear lp0 cp0_0 cp0_1
  clear lv8 cv8_0 cv8_1
  have og6_24 := own_keep og6_23 b24 (Nat.le_refl _)
  clear og6_23
  have ox7_24 := own_keep ox7_23 b24 (Nat.le_refl _)
  clear ox7_23
  have ox9_24 := own_keep ox9_23 b24 (Nat.le_refl _)
  clear ox9_23
  have og10_24 := own_keep og10_23 b24 (Nat.le_refl _)
  clear og10_23
  have og22_24 := own_keep og22_23 b24 (Nat.le_refl _)
  clear og22_23
  have xp0_24 := XP0_23.out.below b24 XP0_23.out.lt
  clear XP0_23
  have xv8_24 := XV8_23.out.below b24 XV8_23.out.lt
  clear XV8_23
  have cp0_0 : w24.cell? ⟨w.heap.size, 0, none⟩ = some (.int .i64 l0) := by rw [xp0_24.cell]; rfl
  have cp0_1 : w24.cell? ⟨w.heap.size, 1, none⟩ = some (.slice A0 n0 c0) := by rw [xp0_24.cell]; rfl
  have lp0 := xp0_24.lt
  have XP0_24 := Lib.hid xp0_24
  clear xp0_24
  have cv8_0 : w24.cell? ⟨w7.heap.size, 0, none⟩ = some (.int .i64 l0) := by rw [xv8_24.cell]; rfl
  have cv8_1 : w24.cell? ⟨w7.heap.size, 1, none⟩ = some (.slice B7 n0 d7) := by rw [xv8_24.cell]; rfl
  have lv8 := xv8_24.lt
  have XV8_24 := Lib.hid xv8_24
  clear xv8_24
  go_wp2_with fail
  go_ret
  exact ⟨rfl, t24⟩
  
set_option maxRecDepth 100000 in
theorem lifted_ShortenProof (os : Os) (started : os.Started) (H : Type) (enc : TypeId × Value → H) :
    ReturnsInHanded {} Try.checked os 7 .any (Rows.fnExactShortenProofSpec.pre6 enc Try.prog Try.f7 Rows.fnExactShortenProofRow.domain false) (Rows.fnExactShortenProofSpec.post enc Try.prog Try.f7 false true false false) := by
  refine returnsInHanded_of_change (C := Try.checked) own_knob started (by kernel_rfl) Try.func7
    (ChangeSpec.witness6 (enc := enc) (C := Try.checked) false ⟨#[], #[.agg #[.int .i64 0, .slice none 0 0], .string ⟨#[]⟩, .slice none 0 0], []⟩ 8 (by kernel_rfl) (by kernel_rfl) (by kernel_rfl) (by kernel_rfl)) ?_
  intro W base args ds gs before hval0 hW _ _
  have hval : ∀ (j : Nat) t v, Try.f7.params[j]? = some t → args[j]? = some v → Value.okWide Try.prog W .any base t v := hval0
  have hW' := hW
  obtain ⟨p, q, hA0, hV, rfl, hfz, hnd⟩ := hW
  have hA : DataW.TrodAll enc Try.prog W 0 (fun _ => true) true Try.f7.params.toList args.toList ds p := hA0
  rw [Try.params7] at hA hval
  obtain ⟨v0, vs0, d0, ds0, p0, q0, hargs, rfl, rfl, h0, r0⟩ := trodAll_cons hA
  obtain ⟨v1, vs1, d1, ds1, p1, q1, rfl, rfl, rfl, h1, r1⟩ := trodAll_cons r0
  obtain ⟨v2, vs2, d2, ds2, p2, q2, rfl, rfl, rfl, h2, r2⟩ := trodAll_cons r1
  obtain ⟨rfl, rfl, rfl⟩ := trodAll_nil r2
  obtain rfl : args = #[v0, v1, v2] := by cases args; simp_all
  obtain ⟨rfl, rfl⟩ := trodVars_none hV
  have k0 := h0
  have lt0 : ∀ x ∈ p0, x.block < W.heap.size := by obtain ⟨m, hm⟩ := k0; exact DataW.trod_lt m _ _ _ hm
  have k1 := h1
  have lt1 : ∀ x ∈ p1, x.block < W.heap.size := by obtain ⟨m, hm⟩ := k1; exact DataW.trod_lt m _ _ _ hm
  have k2 := h2
  have lt2 : ∀ x ∈ p2, x.block < W.heap.size := by obtain ⟨m, hm⟩ := k2; exact DataW.trod_lt m _ _ _ hm
  obtain ⟨z0, R0⟩ := open_system (hval 0 24 v0 rfl rfl) h0
  obtain ⟨a1, rfl, rfl, rfl, wf1⟩ := Go.ChangeMaps.open_string Try.underlying9 (hval 1 9 v1 rfl rfl) h1
  obtain ⟨a2, len2, cap2, rfl⟩ := okWide_slice Try.underlying43 (hval 2 43 v2 rfl rfl)
  obtain ⟨z2, R2⟩ := open_linkS h2
  clear hA0 hval0
  refine (law_ShortenProof W v0 z0 R0 a1 wf1 a2 len2 cap2 z2 R2).mono fun e W' ⟨he, bel⟩ => ?_
  subst he
  exact ⟨_, rfl, _, _, _, [], _, [], hW', trodAll_mk1 (shut_bool Try.underlying4 _), (trodAll_cons_mk (Below.trod laid_out (by kernel_rfl) (of_decide_eq_true (by kernel_rfl)) k0 bel lt0) (trodAll_cons_mk (Below.trod laid_out (by kernel_rfl) (of_decide_eq_true (by kernel_rfl)) k1 bel lt1) (trodAll_cons_mk (Below.trod laid_out (by kernel_rfl) (of_decide_eq_true (by kernel_rfl)) k2 bel lt2) trodAll_mk0))), rfl, bel.frame _, fun h => by cases h⟩

theorem ShortenProof_holds : Rows.FnExactShortenProofSaid :=
  OpenClaim.holds_of_wide 7 Try.f7 rfl rfl rfl rfl rfl rfl rfl ⟨rfl, rfl, rfl, rfl, rfl⟩ rfl rfl rfl rfl rfl (by kernel_rfl) Try.func7 (by kernel_rfl)
    (of_decide_eq_true (by kernel_rfl)) (by unfold Func.isWrapper; first | (rw [if_pos (by decide +kernel)]; kernel_rfl) | (rw [if_neg (by decide +kernel)]; exact ⟨rfl, rfl⟩))
    (fun os started H enc _ => lifted_ShortenProof os started H enc)

end Go.Proofs.Ytnlagiopmkjmlaa
