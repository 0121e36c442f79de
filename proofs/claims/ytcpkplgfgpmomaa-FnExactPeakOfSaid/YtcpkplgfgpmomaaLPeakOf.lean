/- For every input the law FnExactPeakOf returns true and leaves its arguments as they were. No condition. -/
import Derived.Test.YtcpkplgfgpmomaaChain
import Derived.Test.YtcpkplgfgpmomaaLinkTo
import Derived.Test.YtcpkplgfgpmomaaRuleTo
import Derived.Test.YtcpkplgfgpmomaaSystem
import Derived.Test.YtcpkplgfgpmomaaOpenArgs
import Derived.Test.YtcpkplgfgpmomaaLawBase
namespace Go.Proofs.Ytcpkplgfgpmomaa
open Go.ChangeShapes Go.WideShapes Go.ChangeAt Go.RowKit Go.Shelf

set_option maxRecDepth 100000 in
set_option maxHeartbeats 1000000 in
theorem law_PeakOf (w : World) (v0 : Value) (z0 : Int × Option Addr × Nat × Nat × List RuleT) (R0 : OpenSystem w v0 z0) (s : ByteArray) (hw1 : s.size ≤ maxLen) (A2 : Option Addr) (n2 c2 : Nat) (ls : List LinkT) (R2 : OpenSlLinks w A2 n2 ls) :
    Calls Try.prog 9 #[v0, .string s, .slice A2 n2 c2] w (Kept w (.bool true)) := by
  obtain ⟨l0, A0, n0, c0, rs⟩ := z0
  obtain ⟨rfl, hr0, hn0, hm0, hz0⟩ := R0
  dsimp only at hr0 hn0 hm0 hz0
  obtain ⟨hr2, hn2, hm2, hz2⟩ := R2
  unfold maxLen at hw1
  by_cases hb1 : s.size ≤ 1048576
  rotate_left
  · skip
    go_enter Try.func9, Try.ntmps9
    go_wp2_with fail
    go_ret
    exact ⟨rfl, (by repeat (first | exact Below.refl _ _ | (refine Below.alloc ?_ (by simp <;> omega) _)))⟩
  have Hn0 := Lib.hid hn0
  clear hn0
  have Hn2 := Lib.hid hn2
  clear hn2
  go_enter Try.func9, Try.ntmps9
  go_wp2_with fail
  generalize hq : (w.alloc (.cells #[.int .i64 l0, .slice A0 n0 c0] 24)) = w1
  have b1 : Below w.heap.size w w1 := by rw [← hq]; exact ((Below.refl _ _).alloc (by simp <;> omega) _)
  have t1 := b1
  have xp0_1 : Bk w1 (w.heap.size) 24 #[.int .i64 l0, .slice A0 n0 c0] := by rw [← hq]; exact ((Bk.new w 24 #[.int .i64 l0, .slice A0 n0 c0])).cast (by simp)
  clear hq
  have cp0_0 : w1.cell? ⟨w.heap.size, 0, none⟩ = some (.int .i64 l0) := by rw [xp0_1.cell]; rfl
  have cp0_1 : w1.cell? ⟨w.heap.size, 1, none⟩ = some (.slice A0 n0 c0) := by rw [xp0_1.cell]; rfl
  have lp0 := xp0_1.lt
  have XP0_1 := Lib.hid xp0_1
  clear xp0_1
  (try go_wp2_with fail)
  (with_reducible refine (szSystem_any l0 A0 n0 c0 rs 1048576 _ (hr0.keep t1) Hn0.out hm0 (by omega) (by omega) hz0).mono ?_)
  rintro e w2 ⟨rfl, b2⟩
  have t2 := t1.trans (b2.mono t1.size)
  clear lp0 cp0_0 cp0_1
  have xp0_2 := XP0_1.out.below b2 XP0_1.out.lt
  clear XP0_1
  have cp0_0 : w2.cell? ⟨w.heap.size, 0, none⟩ = some (.int .i64 l0) := by rw [xp0_2.cell]; rfl
  have cp0_1 : w2.cell? ⟨w.heap.size, 1, none⟩ = some (.slice A0 n0 c0) := by rw [xp0_2.cell]; rfl
  have lp0 := xp0_2.lt
  have XP0_2 := Lib.hid xp0_2
  clear xp0_2
  by_cases ht0 : (1048576 : Int) - (totRule rs : Nat) < 0
  · rw [szLeft, if_pos ht0]
    go_wp2_with fail
    go_ret
    exact ⟨rfl, t2⟩
  rw [szLeft, if_neg ht0]
  have hs0 : totRule rs ≤ 1048576 := by omega
  have hb0 : n0 ≤ 1048576 := by have := tot_len_rules rs; have := Hn0.out; omega
  have hy0 := tot_all_rules rs hs0
  have hl0 : (0 : Int) ≤ 1048576 - (totRule rs : Nat) := by omega
  clear ht0
  go_wp2_with fail
  (with_reducible refine (szLinkS_any A2 n2 c2 ls (1048576 - (totRule rs : Nat)) _  Hn2.out hm2 (by omega) (by omega)).mono ?_)
  rintro e w3 ⟨rfl, b3⟩
  have t3 := t2.trans (b3.mono t2.size)
  clear lp0 cp0_0 cp0_1
  have xp0_3 := XP0_2.out.below b3 XP0_2.out.lt
  clear XP0_2
  have cp0_0 : w3.cell? ⟨w.heap.size, 0, none⟩ = some (.int .i64 l0) := by rw [xp0_3.cell]; rfl
  have cp0_1 : w3.cell? ⟨w.heap.size, 1, none⟩ = some (.slice A0 n0 c0) := by rw [xp0_3.cell]; rfl
  have lp0 := xp0_3.lt
  have XP0_3 := Lib.hid xp0_3
  clear xp0_3
  by_cases ht2 : ((1048576 - (totRule rs : Nat)) : Int) - (totLink ls : Nat) < 0
  · rw [szLeft, if_pos ht2]
    go_wp2_with fail
    go_ret
    exact ⟨rfl, t3⟩
  rw [szLeft, if_neg ht2]
  have hs2 : totLink ls ≤ 1048576 := by omega
  have hb2 : n2 ≤ 1048576 := by have := tot_len_links ls; have := Hn2.out; omega
  have hl2 : (0 : Int) ≤ (1048576 - (totRule rs : Nat)) - (totLink ls : Nat) := by omega
  clear ht2
  go_wp2_with fail
  (with_reducible refine (toSystem_any l0 A0 n0 c0 rs _ (hr0.keep t3) Hn0.out hb0 hy0).mono ?_)
  rintro e w4 ⟨B4, d4, rfl, ox4_4, b4⟩
  have t4 := t3.trans (b4.mono t3.size)
  clear lp0 cp0_0 cp0_1
  have xp0_4 := XP0_3.out.below b4 XP0_3.out.lt
  clear XP0_3
  have cp0_0 : w4.cell? ⟨w.heap.size, 0, none⟩ = some (.int .i64 l0) := by rw [xp0_4.cell]; rfl
  have cp0_1 : w4.cell? ⟨w.heap.size, 1, none⟩ = some (.slice A0 n0 c0) := by rw [xp0_4.cell]; rfl
  have lp0 := xp0_4.lt
  have XP0_4 := Lib.hid xp0_4
  clear xp0_4
  go_wp2_with fail
  (with_reducible refine (toLinkS_any A2 n2 c2 ls _ (hr2.keep t4) Hn2.out hb2).mono ?_)
  rintro e w5 ⟨B5, d5, rfl, ox5_5, b5⟩
  have t5 := t4.trans (b5.mono t4.size)
  have a_x4_x5 := Lib.hid (own_apart ox4_4 ox5_5 (Nat.le_refl _))
  have a_x5_x4 := Lib.hid (own_apart' ox5_5 ox4_4 (Nat.le_refl _))
  clear lp0 cp0_0 cp0_1
  have ox4_5 := own_keep ox4_4 b5 (Nat.le_refl _)
  clear ox4_4
  have xp0_5 := XP0_4.out.below b5 XP0_4.out.lt
  clear XP0_4
  have cp0_0 : w5.cell? ⟨w.heap.size, 0, none⟩ = some (.int .i64 l0) := by rw [xp0_5.cell]; rfl
  have cp0_1 : w5.cell? ⟨w.heap.size, 1, none⟩ = some (.slice A0 n0 c0) := by rw [xp0_5.cell]; rfl
  have lp0 := xp0_5.lt
  have XP0_5 := Lib.hid xp0_5
  clear xp0_5
  go_wp2_with fail
  (with_reducible refine (specPeakOf_any l0 B4 n0 d4 rs s B5 n2 d5 ls _ (Rd.of_own ox4_5) Hn0.out hb0 hy0 hb1 (Rd.of_own ox5_5) Hn2.out hb2).mono ?_)
  rintro e w6 ⟨rfl, b6⟩
  have t6 := t5.trans (b6.mono t5.size)
  clear lp0 cp0_0 cp0_1
  have ox4_6 := own_keep ox4_5 b6 (Nat.le_refl _)
  clear ox4_5
  have ox5_6 := own_keep ox5_5 b6 (Nat.le_refl _)
  clear ox5_5
  have xp0_6 := XP0_5.out.below b6 XP0_5.out.lt
  clear XP0_5
  have cp0_0 : w6.cell? ⟨w.heap.size, 0, none⟩ = some (.int .i64 l0) := by rw [xp0_6.cell]; rfl
  have cp0_1 : w6.cell? ⟨w.heap.size, 1, none⟩ = some (.slice A0 n0 c0) := by rw [xp0_6.cell]; rfl
  have lp0 := xp0_6.lt
  have XP0_6 := Lib.hid xp0_6
  clear xp0_6
  clear ox4_6
  clear ox5_6
  go_wp2_with fail
  (with_reducible refine (toSystem_any l0 A0 n0 c0 rs _ (hr0.keep t6) Hn0.out hb0 hy0).mono ?_)
  rintro e w7 ⟨B7, d7, rfl, ox7_7, b7⟩
  have t7 := t6.trans (b7.mono t6.size)
  clear lp0 cp0_0 cp0_1
  have xp0_7 := XP0_6.out.below b7 XP0_6.out.lt
  clear XP0_6
  have cp0_0 : w7.cell? ⟨w.heap.size, 0, none⟩ = some (.int .i64 l0) := by rw [xp0_7.cell]; rfl
  have cp0_1 : w7.cell? ⟨w.heap.size, 1, none⟩ = some (.slice A0 n0 c0) := by rw [xp0_7.cell]; rfl
  have lp0 := xp0_7.lt
  have XP0_7 := Lib.hid xp0_7
  clear xp0_7
  go_wp2_with fail
  generalize hq : w7.alloc (.cells #[.int .i64 l0, .slice B7 n0 d7] 31) = w8
  have b8 : Below w7.heap.size w7 w8 := by rw [← hq]; exact (Below.refl _ _).alloc (Nat.le_refl _) _
  have t8 := t7.trans (b8.mono t7.size)
  have xv8_8 : Bk w8 w7.heap.size 31 #[.int .i64 l0, .slice B7 n0 d7] := by rw [← hq]; exact Bk.new _ _ _
  clear hq
  clear lp0 cp0_0 cp0_1
  have ox7_8 := own_keep ox7_7 b8 (Nat.le_refl _)
  clear ox7_7
  have xp0_8 := XP0_7.out.below b8 XP0_7.out.lt
  clear XP0_7
  have cp0_0 : w8.cell? ⟨w.heap.size, 0, none⟩ = some (.int .i64 l0) := by rw [xp0_8.cell]; rfl
  have cp0_1 : w8.cell? ⟨w.heap.size, 1, none⟩ = some (.slice A0 n0 c0) := by rw [xp0_8.cell]; rfl
  have lp0 := xp0_8.lt
  have XP0_8 := Lib.hid xp0_8
  clear xp0_8
  have cv8_0 : w8.cell? ⟨w7.heap.size, 0, none⟩ = some (.int .i64 l0) := by rw [xv8_8.cell]; rfl
  have cv8_1 : w8.cell? ⟨w7.heap.size, 1, none⟩ = some (.slice B7 n0 d7) := by rw [xv8_8.cell]; rfl
  have lv8 := xv8_8.lt
  have XV8_8 := Lib.hid xv8_8
  clear xv8_8
  (try go_wp2_with fail)
  (with_reducible refine (toLinkS_any A2 n2 c2 ls _ (hr2.keep t8) Hn2.out hb2).mono ?_)
  rintro e w9 ⟨B9, d9, rfl, ox9_9, b9⟩
  have t9 := t8.trans (b9.mono t8.size)
  have a_x7_x9 := Lib.hid (own_apart ox7_8 ox9_9 (Nat.le_refl _))
  have a_x9_x7 := Lib.hid (own_apart' ox9_9 ox7_8 (Nat.le_refl _))
  clear lp0 cp0_0 cp0_1
  clear lv8 cv8_0 cv8_1
  have ox7_9 := own_keep ox7_8 b9 (Nat.le_refl _)
  clear ox7_8
  have xp0_9 := XP0_8.out.below b9 XP0_8.out.lt
  clear XP0_8
  have xv8_9 := XV8_8.out.below b9 XV8_8.out.lt
  clear XV8_8
  have cp0_0 : w9.cell? ⟨w.heap.size, 0, none⟩ = some (.int .i64 l0) := by rw [xp0_9.cell]; rfl
  have cp0_1 : w9.cell? ⟨w.heap.size, 1, none⟩ = some (.slice A0 n0 c0) := by rw [xp0_9.cell]; rfl
  have lp0 := xp0_9.lt
  have XP0_9 := Lib.hid xp0_9
  clear xp0_9
  have cv8_0 : w9.cell? ⟨w7.heap.size, 0, none⟩ = some (.int .i64 l0) := by rw [xv8_9.cell]; rfl
  have cv8_1 : w9.cell? ⟨w7.heap.size, 1, none⟩ = some (.slice B7 n0 d7) := by rw [xv8_9.cell]; rfl
  have lv8 := xv8_9.lt
  have XV8_9 := Lib.hid xv8_9
  clear xv8_9
  go_wp2_with fail
  (with_reducible refine (implPeakOf_any l0 B7 n0 d7 rs s B9 n2 d9 ls _ (Rd.of_own ox7_9) Hn0.out hb0 hy0 hb1 (Rd.of_own ox9_9) Hn2.out hb2).mono ?_)
  rintro e w10 ⟨rfl, b10⟩
  have t10 := t9.trans (b10.mono t9.size)
  clear lp0 cp0_0 cp0_1
  clear lv8 cv8_0 cv8_1
  have ox7_10 := own_keep ox7_9 b10 (Nat.le_refl _)
  clear ox7_9
  have ox9_10 := own_keep ox9_9 b10 (Nat.le_refl _)
  clear ox9_9
  have xp0_10 := XP0_9.out.below b10 XP0_9.out.lt
  clear XP0_9
  have xv8_10 := XV8_9.out.below b10 XV8_9.out.lt
  clear XV8_9
  have cp0_0 : w10.cell? ⟨w.heap.size, 0, none⟩ = some (.int .i64 l0) := by rw [xp0_10.cell]; rfl
  have cp0_1 : w10.cell? ⟨w.heap.size, 1, none⟩ = some (.slice A0 n0 c0) := by rw [xp0_10.cell]; rfl
  have lp0 := xp0_10.lt
  have XP0_10 := Lib.hid xp0_10
  clear xp0_10
  have cv8_0 : w10.cell? ⟨w7.heap.size, 0, none⟩ = some (.int .i64 l0) := by rw [xv8_10.cell]; rfl
  have cv8_1 : w10.cell? ⟨w7.heap.size, 1, none⟩ = some (.slice B7 n0 d7) := by rw [xv8_10.cell]; rfl
  have lv8 := xv8_10.lt
  have XV8_10 := Lib.hid xv8_10
  clear xv8_10
  go_wp2_with fail
  have eS : ∀ w', Below w10.drew.heap.size w10.drew w' → w'.cell? ⟨w.heap.size, 0, none⟩ = some (.int .i64 l0) ∧ w'.cell? ⟨w.heap.size, 1, none⟩ = some (.slice A0 n0 c0) ∧ w'.cell? ⟨w7.heap.size, 0, none⟩ = some (.int .i64 l0) ∧ w'.cell? ⟨w7.heap.size, 1, none⟩ = some (.slice B7 n0 d7) := fun w' hb => ⟨(hb.cell (p := ⟨w.heap.size, 0, none⟩) XP0_10.out.lt).trans cp0_0, (hb.cell (p := ⟨w.heap.size, 1, none⟩) XP0_10.out.lt).trans cp0_1, (hb.cell (p := ⟨w7.heap.size, 0, none⟩) XV8_10.out.lt).trans cv8_0, (hb.cell (p := ⟨w7.heap.size, 1, none⟩) XV8_10.out.lt).trans cv8_1⟩
  have zS := eS _ (Below.refl _ _)
  have ES := Lib.hid eS
  clear eS
  have ZS := Lib.hid zS
  clear zS
  go_region_held3 (fun w' => w'.cell? ⟨w.heap.size, 0, none⟩ = some (.int .i64 l0) ∧ w'.cell? ⟨w.heap.size, 1, none⟩ = some (.slice A0 n0 c0) ∧ w'.cell? ⟨w7.heap.size, 0, none⟩ = some (.int .i64 l0) ∧ w'.cell? ⟨w7.heap.size, 1, none⟩ = some (.slice B7 n0 d7)) (first | exact ZS.out | assumption) ((first | ((with_reducible refine (toSystem_any l0 A0 n0 c0 rs _ (Rd.drew (hr0.keep t10)) Hn0.out hb0 hy0).mono ?_); rintro e y10 ⟨B11, d11, rfl, oy10, hU1⟩; have hS1 := ES.out _ hU1; have oz10 := own_keep (w := w10.drew) ox7_10 hU1 (Nat.le_refl _)) | ((with_reducible refine (eqSystem_k l0 B7 n0 d7 rs l0 B11 n0 d11 rs _ (Rd.of_own oz10) Hn0.out (le_big hb0) (Rd.of_own oy10) Hn0.out (le_big hb0)).mono ?_); rintro e w11 ⟨rfl, hU2⟩; have hU3 := hU1.trans (hU2.mono hU1.size); have hS2 := ES.out _ hU3)))
  have b11 : Below w10.heap.size w10 w11 := ((Below.refl _ _).drew).trans hU3
  have t11 := t10.trans (b11.mono t10.size)
  clear hU1 hU2 hU3 hS1 hS2 ES ZS oy10 oz10
  clear lp0 cp0_0 cp0_1
  clear lv8 cv8_0 cv8_1
  have ox7_11 := own_keep ox7_10 b11 (Nat.le_refl _)
  clear ox7_10
  have ox9_11 := own_keep ox9_10 b11 (Nat.le_refl _)
  clear ox9_10
  have xp0_11 := XP0_10.out.below b11 XP0_10.out.lt
  clear XP0_10
  have xv8_11 := XV8_10.out.below b11 XV8_10.out.lt
  clear XV8_10
  have cp0_0 : w11.cell? ⟨w.heap.size, 0, none⟩ = some (.int .i64 l0) := by rw [xp0_11.cell]; rfl
  have cp0_1 : w11.cell? ⟨w.heap.size, 1, none⟩ = some (.slice A0 n0 c0) := by rw [xp0_11.cell]; rfl
  have lp0 := xp0_11.lt
  have XP0_11 := Lib.hid xp0_11
  clear xp0_11
  have cv8_0 : w11.cell? ⟨w7.heap.size, 0, none⟩ = some (.int .i64 l0) := by rw [xv8_11.cell]; rfl
  have cv8_1 : w11.cell? ⟨w7.heap.size, 1, none⟩ = some (.slice B7 n0 d7) := by rw [xv8_11.cell]; rfl
  have lv8 := xv8_11.lt
  have XV8_11 := Lib.hid xv8_11
  clear xv8_11
  go_wp2_with fail
  (with_reducible refine (toLinkS_any A2 n2 c2 ls _ (hr2.keep t11) Hn2.out hb2).mono ?_)
  rintro e w12 ⟨B12, d12, rfl, ox12_12, b12⟩
  have t12 := t11.trans (b12.mono t11.size)
  have a_x7_x12 := Lib.hid (own_apart ox7_11 ox12_12 (Nat.le_refl _))
  have a_x12_x7 := Lib.hid (own_apart' ox12_12 ox7_11 (Nat.le_refl _))
  have a_x9_x12 := Lib.hid (own_apart ox9_11 ox12_12 (Nat.le_refl _))
  have a_x12_x9 := Lib.hid (own_apart' ox12_12 ox9_11 (Nat.le_refl _))
  clear lp0 cp0_0 cp0_1
  clear lv8 cv8_0 cv8_1
  have ox7_12 := own_keep ox7_11 b12 (Nat.le_refl _)
  clear ox7_11
  have ox9_12 := own_keep ox9_11 b12 (Nat.le_refl _)
  clear ox9_11
  have xp0_12 := XP0_11.out.below b12 XP0_11.out.lt
  clear XP0_11
  have xv8_12 := XV8_11.out.below b12 XV8_11.out.lt
  clear XV8_11
  have cp0_0 : w12.cell? ⟨w.heap.size, 0, none⟩ = some (.int .i64 l0) := by rw [xp0_12.cell]; rfl
  have cp0_1 : w12.cell? ⟨w.heap.size, 1, none⟩ = some (.slice A0 n0 c0) := by rw [xp0_12.cell]; rfl
  have lp0 := xp0_12.lt
  have XP0_12 := Lib.hid xp0_12
  clear xp0_12
  have cv8_0 : w12.cell? ⟨w7.heap.size, 0, none⟩ = some (.int .i64 l0) := by rw [xv8_12.cell]; rfl
  have cv8_1 : w12.cell? ⟨w7.heap.size, 1, none⟩ = some (.slice B7 n0 d7) := by rw [xv8_12.cell]; rfl
  have lv8 := xv8_12.lt
  have XV8_12 := Lib.hid xv8_12
  clear xv8_12
  go_wp2_with fail
  (with_reducible refine (eqLinkS_k B9 n2 d9 ls  B12 n2 d12 ls _ (Rd.of_own ox9_12) Hn2.out (le_big hb2) (Rd.of_own ox12_12) Hn2.out (le_big hb2)).mono ?_)
  rintro e w13 ⟨rfl, b13⟩
  have t13 := t12.trans (b13.mono t12.size)
  clear lp0 cp0_0 cp0_1
  clear lv8 cv8_0 cv8_1
  have ox7_13 := own_keep ox7_12 b13 (Nat.le_refl _)
  clear ox7_12
  have ox9_13 := own_keep ox9_12 b13 (Nat.le_refl _)
  clear ox9_12
  have ox12_13 := own_keep ox12_12 b13 (Nat.le_refl _)
  clear ox12_12
  have xp0_13 := XP0_12.out.below b13 XP0_12.out.lt
  clear XP0_12
  have xv8_13 := XV8_12.out.below b13 XV8_12.out.lt
  clear XV8_12
  have cp0_0 : w13.cell? ⟨w.heap.size, 0, none⟩ = some (.int .i64 l0) := by rw [xp0_13.cell]; rfl
  have cp0_1 : w13.cell? ⟨w.heap.size, 1, none⟩ = some (.slice A0 n0 c0) := by rw [xp0_13.cell]; rfl
  have lp0 := xp0_13.lt
  have XP0_13 := Lib.hid xp0_13
  clear xp0_13
  have cv8_0 : w13.cell? ⟨w7.heap.size, 0, none⟩ = some (.int .i64 l0) := by rw [xv8_13.cell]; rfl
  have cv8_1 : w13.cell? ⟨w7.heap.size, 1, none⟩ = some (.slice B7 n0 d7) := by rw [xv8_13.cell]; rfl
  have lv8 := xv8_13.lt
  have XV8_13 := Lib.hid xv8_13
  clear xv8_13
  clear ox12_13
  go_wp2_with fail
  go_ret
  exact ⟨rfl, t13⟩
  
set_option maxRecDepth 100000 in
theorem lifted_PeakOf (os : Os) (started : os.Started) (H : Type) (enc : TypeId × Value → H) :
    ReturnsInHanded {} Try.checked os 9 .any (Rows.fnExactPeakOfSpec.pre6 enc Try.prog Try.f9 Rows.fnExactPeakOfRow.domain false) (Rows.fnExactPeakOfSpec.post enc Try.prog Try.f9 false true false false) := by
  refine returnsInHanded_of_change (C := Try.checked) own_knob started (by kernel_rfl) Try.func9
    (ChangeSpec.witness6 (enc := enc) (C := Try.checked) false ⟨#[], #[.agg #[.int .i64 0, .slice none 0 0], .string ⟨#[]⟩, .slice none 0 0], []⟩ 8 (by kernel_rfl) (by kernel_rfl) (by kernel_rfl) (by kernel_rfl)) ?_
  intro W base args ds gs before hval0 hW _ _
  have hval : ∀ (j : Nat) t v, Try.f9.params[j]? = some t → args[j]? = some v → Value.okWide Try.prog W .any base t v := hval0
  have hW' := hW
  obtain ⟨p, q, hA0, hV, rfl, hfz, hnd⟩ := hW
  have hA : DataW.TrodAll enc Try.prog W 0 (fun _ => true) true Try.f9.params.toList args.toList ds p := hA0
  rw [Try.params9] at hA hval
  obtain ⟨v0, vs0, d0, ds0, p0, q0, hargs, rfl, rfl, h0, r0⟩ := trodAll_cons hA
  obtain ⟨v1, vs1, d1, ds1, p1, q1, rfl, rfl, rfl, h1, r1⟩ := trodAll_cons r0
  obtain ⟨v2, vs2, d2, ds2, p2, q2, rfl, rfl, rfl, h2, r2⟩ := trodAll_cons r1
  obtain ⟨rfl, rfl, rfl⟩ := trodAll_nil r2
  obtain rfl : args = #[v0, v1, v2] := by cases args; simp_all
  obtain ⟨rfl, rfl⟩ := trodVars_none hV
  have k0 := h0
  have lt0 : ∀ x ∈ p0, x.block < W.heap.size := by obtain ⟨m, hm⟩ := k0; exact DataW.trod_lt m _ _ _ hm
  have k1 := h1
  have lt1 : ∀ x ∈ p1, x.block < W.heap.size := by obtain ⟨m, hm⟩ := k1; exact DataW.trod_lt m _ _ _ hm
  have k2 := h2
  have lt2 : ∀ x ∈ p2, x.block < W.heap.size := by obtain ⟨m, hm⟩ := k2; exact DataW.trod_lt m _ _ _ hm
  obtain ⟨z0, R0⟩ := open_system (hval 0 24 v0 rfl rfl) h0
  obtain ⟨a1, rfl, rfl, rfl, wf1⟩ := Go.ChangeMaps.open_string Try.underlying9 (hval 1 9 v1 rfl rfl) h1
  obtain ⟨a2, len2, cap2, rfl⟩ := okWide_slice Try.underlying25 (hval 2 25 v2 rfl rfl)
  obtain ⟨z2, R2⟩ := open_linkS h2
  clear hA0 hval0
  refine (law_PeakOf W v0 z0 R0 a1 wf1 a2 len2 cap2 z2 R2).mono fun e W' ⟨he, bel⟩ => ?_
  subst he
  exact ⟨_, rfl, _, _, _, [], _, [], hW', trodAll_mk1 (shut_bool Try.underlying4 _), (trodAll_cons_mk (Below.trod laid_out (by kernel_rfl) (of_decide_eq_true (by kernel_rfl)) k0 bel lt0) (trodAll_cons_mk (Below.trod laid_out (by kernel_rfl) (of_decide_eq_true (by kernel_rfl)) k1 bel lt1) (trodAll_cons_mk (Below.trod laid_out (by kernel_rfl) (of_decide_eq_true (by kernel_rfl)) k2 bel lt2) trodAll_mk0))), rfl, bel.frame _, fun h => by cases h⟩

theorem PeakOf_holds : Rows.FnExactPeakOfSaid :=
  OpenClaim.holds_of_wide 9 Try.f9 rfl rfl rfl rfl rfl rfl rfl ⟨rfl, rfl, rfl, rfl, rfl⟩ rfl rfl rfl rfl rfl (by kernel_rfl) Try.func9 (by kernel_rfl)
    (of_decide_eq_true (by kernel_rfl)) (by unfold Func.isWrapper; first | (rw [if_pos (by decide +kernel)]; kernel_rfl) | (rw [if_neg (by decide +kernel)]; exact ⟨rfl, rfl⟩))
    (fun os started H enc _ => lifted_PeakOf os started H enc)

end Go.Proofs.Ytcpkplgfgpmomaa
