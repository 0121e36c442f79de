/- For every input the law FnExactRunLoop returns true and leaves its arguments as they were. No condition. -/
import Derived.Test.YtgnmfneinnojnaaLoop
import Derived.Test.YtgnmfneinnojnaaRunEq
import Derived.Test.YtgnmfneinnojnaaRuleTo
import Derived.Test.YtgnmfneinnojnaaSystem
import Derived.Test.YtgnmfneinnojnaaOpenArgs
import Derived.Test.YtgnmfneinnojnaaLawBase
namespace Go.Proofs.Ytgnmfneinnojnaa
open Go.ChangeShapes Go.WideShapes Go.ChangeAt Go.RowKit Go.Shelf

set_option maxRecDepth 100000 in
set_option maxHeartbeats 1000000 in
theorem law_RunLoop (w : World) (v0 : Value) (z0 : Int × Option Addr × Nat × Nat × List RuleT) (R0 : OpenSystem w v0 z0) (s : ByteArray) (hw1 : s.size ≤ maxLen) :
    Calls Try.prog 9 #[v0, .string s] w (Kept w (.bool true)) := by
  obtain ⟨l0, A0, n0, c0, rs⟩ := z0
  obtain ⟨rfl, hr0, hn0, hm0, hz0⟩ := R0
  dsimp only at hr0 hn0 hm0 hz0
  unfold maxLen at hw1
  by_cases hb1 : s.size ≤ 1048576
  rotate_left
  · skip
    go_enter Try.func9, Try.ntmps9
    go_wp2_with fail
    go_ret
    exact ⟨rfl, (by repeat (first | exact Below.refl _ _ | (refine Below.alloc ?_ (by simp <;> omega) _)))⟩
  have Hn0 := Lib.hid hn0
  clear hn0
  go_enter Try.func9, Try.ntmps9
  go_wp2_with fail
  generalize hq : (w.alloc (.cells #[.int .i64 l0, .slice A0 n0 c0] 44)) = w1
  have b1 : Below w.heap.size w w1 := by rw [← hq]; exact ((Below.refl _ _).alloc (by simp <;> omega) _)
  have t1 := b1
  have xp0_1 : Bk w1 (w.heap.size) 44 #[.int .i64 l0, .slice A0 n0 c0] := by rw [← hq]; exact ((Bk.new w 44 #[.int .i64 l0, .slice A0 n0 c0])).cast (by simp)
  clear hq
  have cp0_0 : w1.cell? ⟨w.heap.size, 0, none⟩ = some (.int .i64 l0) := by rw [xp0_1.cell]; rfl
  have cp0_1 : w1.cell? ⟨w.heap.size, 1, none⟩ = some (.slice A0 n0 c0) := by rw [xp0_1.cell]; rfl
  have lp0 := xp0_1.lt
  have XP0_1 := Lib.hid xp0_1
  clear xp0_1
  (try go_wp2_with fail)
  (with_reducible refine (szSystem_any l0 A0 n0 c0 rs 1048576 _ (hr0.keep t1) Hn0.out hm0 (by omega) (by omega) hz0).mono ?_)
  rintro e w2 ⟨rfl, b2⟩
  have t2 := t1.trans (b2.mono t1.size)
  clear lp0 cp0_0 cp0_1
  have xp0_2 := XP0_1.out.below b2 XP0_1.out.lt
  clear XP0_1
  have cp0_0 : w2.cell? ⟨w.heap.size, 0, none⟩ = some (.int .i64 l0) := by rw [xp0_2.cell]; rfl
  have cp0_1 : w2.cell? ⟨w.heap.size, 1, none⟩ = some (.slice A0 n0 c0) := by rw [xp0_2.cell]; rfl
  have lp0 := xp0_2.lt
  have XP0_2 := Lib.hid xp0_2
  clear xp0_2
  by_cases ht0 : (1048576 : Int) - (totRule rs : Nat) < 0
  · rw [szLeft, if_pos ht0]
    go_wp2_with fail
    go_ret
    exact ⟨rfl, t2⟩
  rw [szLeft, if_neg ht0]
  have hs0 : totRule rs ≤ 1048576 := by omega
  have hb0 : n0 ≤ 1048576 := by have := tot_len_rules rs; have := Hn0.out; omega
  have hy0 := tot_all_rules rs hs0
  have hl0 : (0 : Int) ≤ 1048576 - (totRule rs : Nat) := by omega
  clear ht0
  go_wp2_with fail
  (with_reducible refine (toSystem_any l0 A0 n0 c0 rs _ (hr0.keep t2) Hn0.out hb0 hy0).mono ?_)
  rintro e w3 ⟨B3, d3, rfl, ox3_3, b3⟩
  have t3 := t2.trans (b3.mono t2.size)
  clear lp0 cp0_0 cp0_1
  have xp0_3 := XP0_2.out.below b3 XP0_2.out.lt
  clear XP0_2
  have cp0_0 : w3.cell? ⟨w.heap.size, 0, none⟩ = some (.int .i64 l0) := by rw [xp0_3.cell]; rfl
  have cp0_1 : w3.cell? ⟨w.heap.size, 1, none⟩ = some (.slice A0 n0 c0) := by rw [xp0_3.cell]; rfl
  have lp0 := xp0_3.lt
  have XP0_3 := Lib.hid xp0_3
  clear xp0_3
  go_wp2_with fail
  (with_reducible refine (specRunLoop_any l0 B3 n0 d3 rs s _ (Rd.of_own ox3_3) Hn0.out hb0 hy0 hb1).mono ?_)
  rintro e w4 ⟨rfl, b4⟩
  have t4 := t3.trans (b4.mono t3.size)
  clear lp0 cp0_0 cp0_1
  have ox3_4 := own_keep ox3_3 b4 (Nat.le_refl _)
  clear ox3_3
  have xp0_4 := XP0_3.out.below b4 XP0_3.out.lt
  clear XP0_3
  have cp0_0 : w4.cell? ⟨w.heap.size, 0, none⟩ = some (.int .i64 l0) := by rw [xp0_4.cell]; rfl
  have cp0_1 : w4.cell? ⟨w.heap.size, 1, none⟩ = some (.slice A0 n0 c0) := by rw [xp0_4.cell]; rfl
  have lp0 := xp0_4.lt
  have XP0_4 := Lib.hid xp0_4
  clear xp0_4
  clear ox3_4
  obtain ⟨⟨r0, r1, r2⟩, hrn⟩ : ∃ v, v = lpRun l0 rs s := ⟨_, rfl⟩
  rw [← hrn]
  have hrv : runV (r0, r1, r2) = .agg #[.string r0, .int .i64 r1, .int .i64 r2] := rfl
  rw [hrv]
  have HRN := Lib.hid hrn
  have HRV := Lib.hid hrv
  clear hrn hrv
  go_wp2_with fail
  generalize hq : w4.alloc (.cells #[.string r0, .int .i64 r1, .int .i64 r2] 55) = w5
  have b5 : Below w4.heap.size w4 w5 := by rw [← hq]; exact (Below.refl _ _).alloc (Nat.le_refl _) _
  have t5 := t4.trans (b5.mono t4.size)
  have xv5_5 : Bk w5 w4.heap.size 55 #[.string r0, .int .i64 r1, .int .i64 r2] := by rw [← hq]; exact Bk.new _ _ _
  clear hq
  clear lp0 cp0_0 cp0_1
  have xp0_5 := XP0_4.out.below b5 XP0_4.out.lt
  clear XP0_4
  have cp0_0 : w5.cell? ⟨w.heap.size, 0, none⟩ = some (.int .i64 l0) := by rw [xp0_5.cell]; rfl
  have cp0_1 : w5.cell? ⟨w.heap.size, 1, none⟩ = some (.slice A0 n0 c0) := by rw [xp0_5.cell]; rfl
  have lp0 := xp0_5.lt
  have XP0_5 := Lib.hid xp0_5
  clear xp0_5
  have cv5_0 : w5.cell? ⟨w4.heap.size, 0, none⟩ = some (.string r0) := by rw [xv5_5.cell]; rfl
  have cv5_1 : w5.cell? ⟨w4.heap.size, 1, none⟩ = some (.int .i64 r1) := by rw [xv5_5.cell]; rfl
  have cv5_2 : w5.cell? ⟨w4.heap.size, 2, none⟩ = some (.int .i64 r2) := by rw [xv5_5.cell]; rfl
  have lv5 := xv5_5.lt
  have XV5_5 := Lib.hid xv5_5
  clear xv5_5
  (try go_wp2_with fail)
  (with_reducible refine (toSystem_any l0 A0 n0 c0 rs _ (hr0.keep t5) Hn0.out hb0 hy0).mono ?_)
  rintro e w6 ⟨B6, d6, rfl, ox6_6, b6⟩
  have t6 := t5.trans (b6.mono t5.size)
  clear lp0 cp0_0 cp0_1
  clear lv5 cv5_0 cv5_1 cv5_2
  have xp0_6 := XP0_5.out.below b6 XP0_5.out.lt
  clear XP0_5
  have xv5_6 := XV5_5.out.below b6 XV5_5.out.lt
  clear XV5_5
  have cp0_0 : w6.cell? ⟨w.heap.size, 0, none⟩ = some (.int .i64 l0) := by rw [xp0_6.cell]; rfl
  have cp0_1 : w6.cell? ⟨w.heap.size, 1, none⟩ = some (.slice A0 n0 c0) := by rw [xp0_6.cell]; rfl
  have lp0 := xp0_6.lt
  have XP0_6 := Lib.hid xp0_6
  clear xp0_6
  have cv5_0 : w6.cell? ⟨w4.heap.size, 0, none⟩ = some (.string r0) := by rw [xv5_6.cell]; rfl
  have cv5_1 : w6.cell? ⟨w4.heap.size, 1, none⟩ = some (.int .i64 r1) := by rw [xv5_6.cell]; rfl
  have cv5_2 : w6.cell? ⟨w4.heap.size, 2, none⟩ = some (.int .i64 r2) := by rw [xv5_6.cell]; rfl
  have lv5 := xv5_6.lt
  have XV5_6 := Lib.hid xv5_6
  clear xv5_6
  go_wp2_with fail
  generalize hq : w6.alloc (.cells #[.int .i64 l0, .slice B6 n0 d6] 49) = w7
  have b7 : Below w6.heap.size w6 w7 := by rw [← hq]; exact (Below.refl _ _).alloc (Nat.le_refl _) _
  have t7 := t6.trans (b7.mono t6.size)
  have xv7_7 : Bk w7 w6.heap.size 49 #[.int .i64 l0, .slice B6 n0 d6] := by rw [← hq]; exact Bk.new _ _ _
  clear hq
  clear lp0 cp0_0 cp0_1
  clear lv5 cv5_0 cv5_1 cv5_2
  have ox6_7 := own_keep ox6_6 b7 (Nat.le_refl _)
  clear ox6_6
  have xp0_7 := XP0_6.out.below b7 XP0_6.out.lt
  clear XP0_6
  have xv5_7 := XV5_6.out.below b7 XV5_6.out.lt
  clear XV5_6
  have cp0_0 : w7.cell? ⟨w.heap.size, 0, none⟩ = some (.int .i64 l0) := by rw [xp0_7.cell]; rfl
  have cp0_1 : w7.cell? ⟨w.heap.size, 1, none⟩ = some (.slice A0 n0 c0) := by rw [xp0_7.cell]; rfl
  have lp0 := xp0_7.lt
  have XP0_7 := Lib.hid xp0_7
  clear xp0_7
  have cv5_0 : w7.cell? ⟨w4.heap.size, 0, none⟩ = some (.string r0) := by rw [xv5_7.cell]; rfl
  have cv5_1 : w7.cell? ⟨w4.heap.size, 1, none⟩ = some (.int .i64 r1) := by rw [xv5_7.cell]; rfl
  have cv5_2 : w7.cell? ⟨w4.heap.size, 2, none⟩ = some (.int .i64 r2) := by rw [xv5_7.cell]; rfl
  have lv5 := xv5_7.lt
  have XV5_7 := Lib.hid xv5_7
  clear xv5_7
  have cv7_0 : w7.cell? ⟨w6.heap.size, 0, none⟩ = some (.int .i64 l0) := by rw [xv7_7.cell]; rfl
  have cv7_1 : w7.cell? ⟨w6.heap.size, 1, none⟩ = some (.slice B6 n0 d6) := by rw [xv7_7.cell]; rfl
  have lv7 := xv7_7.lt
  have XV7_7 := Lib.hid xv7_7
  clear xv7_7
  (try go_wp2_with fail)
  (with_reducible refine (implRunLoop_any l0 B6 n0 d6 rs s _ (Rd.of_own ox6_7) Hn0.out hb0 hy0 hb1).mono ?_)
  rintro e w8 ⟨rfl, b8⟩
  have t8 := t7.trans (b8.mono t7.size)
  clear lp0 cp0_0 cp0_1
  clear lv5 cv5_0 cv5_1 cv5_2
  clear lv7 cv7_0 cv7_1
  have ox6_8 := own_keep ox6_7 b8 (Nat.le_refl _)
  clear ox6_7
  have xp0_8 := XP0_7.out.below b8 XP0_7.out.lt
  clear XP0_7
  have xv5_8 := XV5_7.out.below b8 XV5_7.out.lt
  clear XV5_7
  have xv7_8 := XV7_7.out.below b8 XV7_7.out.lt
  clear XV7_7
  have cp0_0 : w8.cell? ⟨w.heap.size, 0, none⟩ = some (.int .i64 l0) := by rw [xp0_8.cell]; rfl
  have cp0_1 : w8.cell? ⟨w.heap.size, 1, none⟩ = some (.slice A0 n0 c0) := by rw [xp0_8.cell]; rfl
  have lp0 := xp0_8.lt
  have XP0_8 := Lib.hid xp0_8
  clear xp0_8
  have cv5_0 : w8.cell? ⟨w4.heap.size, 0, none⟩ = some (.string r0) := by rw [xv5_8.cell]; rfl
  have cv5_1 : w8.cell? ⟨w4.heap.size, 1, none⟩ = some (.int .i64 r1) := by rw [xv5_8.cell]; rfl
  have cv5_2 : w8.cell? ⟨w4.heap.size, 2, none⟩ = some (.int .i64 r2) := by rw [xv5_8.cell]; rfl
  have lv5 := xv5_8.lt
  have XV5_8 := Lib.hid xv5_8
  clear xv5_8
  have cv7_0 : w8.cell? ⟨w6.heap.size, 0, none⟩ = some (.int .i64 l0) := by rw [xv7_8.cell]; rfl
  have cv7_1 : w8.cell? ⟨w6.heap.size, 1, none⟩ = some (.slice B6 n0 d6) := by rw [xv7_8.cell]; rfl
  have lv7 := xv7_8.lt
  have XV7_8 := Lib.hid xv7_8
  clear xv7_8
  rw [← HRN.out, HRV.out]
  go_wp2_with fail
  generalize hq : w8.alloc (.cells #[.string r0, .int .i64 r1, .int .i64 r2] 55) = w9
  have b9 : Below w8.heap.size w8 w9 := by rw [← hq]; exact (Below.refl _ _).alloc (Nat.le_refl _) _
  have t9 := t8.trans (b9.mono t8.size)
  have xv9_9 : Bk w9 w8.heap.size 55 #[.string r0, .int .i64 r1, .int .i64 r2] := by rw [← hq]; exact Bk.new _ _ _
  clear hq
  clear lp0 cp0_0 cp0_1
  clear lv5 cv5_0 cv5_1 cv5_2
  clear lv7 cv7_0 cv7_1
  have ox6_9 := own_keep ox6_8 b9 (Nat.le_refl _)
  clear ox6_8
  have xp0_9 := XP0_8.out.below b9 XP0_8.out.lt
  clear XP0_8
  have xv5_9 := XV5_8.out.below b9 XV5_8.out.lt
  clear XV5_8
  have xv7_9 := XV7_8.out.below b9 XV7_8.out.lt
  clear XV7_8
  have cp0_0 : w9.cell? ⟨w.heap.size, 0, none⟩ = some (.int .i64 l0) := by rw [xp0_9.cell]; rfl
  have cp0_1 : w9.cell? ⟨w.heap.size, 1, none⟩ = some (.slice A0 n0 c0) := by rw [xp0_9.cell]; rfl
  have lp0 := xp0_9.lt
  have XP0_9 := Lib.hid xp0_9
  clear xp0_9
  have cv5_0 : w9.cell? ⟨w4.heap.size, 0, none⟩ = some (.string r0) := by rw [xv5_9.cell]; rfl
  have cv5_1 : w9.cell? ⟨w4.heap.size, 1, none⟩ = some (.int .i64 r1) := by rw [xv5_9.cell]; rfl
  have cv5_2 : w9.cell? ⟨w4.heap.size, 2, none⟩ = some (.int .i64 r2) := by rw [xv5_9.cell]; rfl
  have lv5 := xv5_9.lt
  have XV5_9 := Lib.hid xv5_9
  clear xv5_9
  have cv7_0 : w9.cell? ⟨w6.heap.size, 0, none⟩ = some (.int .i64 l0) := by rw [xv7_9.cell]; rfl
  have cv7_1 : w9.cell? ⟨w6.heap.size, 1, none⟩ = some (.slice B6 n0 d6) := by rw [xv7_9.cell]; rfl
  have lv7 := xv7_9.lt
  have XV7_9 := Lib.hid xv7_9
  clear xv7_9
  have cv9_0 : w9.cell? ⟨w8.heap.size, 0, none⟩ = some (.string r0) := by rw [xv9_9.cell]; rfl
  have cv9_1 : w9.cell? ⟨w8.heap.size, 1, none⟩ = some (.int .i64 r1) := by rw [xv9_9.cell]; rfl
  have cv9_2 : w9.cell? ⟨w8.heap.size, 2, none⟩ = some (.int .i64 r2) := by rw [xv9_9.cell]; rfl
  have lv9 := xv9_9.lt
  have XV9_9 := Lib.hid xv9_9
  clear xv9_9
  (try go_wp2_with fail)
  (with_reducible refine (eqRun_same r0 r1 r2 _).mono ?_)
  rintro e w10 ⟨rfl, b10⟩
  have t10 := t9.trans (b10.mono t9.size)
  clear lp0 cp0_0 cp0_1
  clear lv5 cv5_0 cv5_1 cv5_2
  clear lv7 cv7_0 cv7_1
  clear lv9 cv9_0 cv9_1 cv9_2
  have ox6_10 := own_keep ox6_9 b10 (Nat.le_refl _)
  clear ox6_9
  have xp0_10 := XP0_9.out.below b10 XP0_9.out.lt
  clear XP0_9
  have xv5_10 := XV5_9.out.below b10 XV5_9.out.lt
  clear XV5_9
  have xv7_10 := XV7_9.out.below b10 XV7_9.out.lt
  clear XV7_9
  have xv9_10 := XV9_9.out.below b10 XV9_9.out.lt
  clear XV9_9
  have cp0_0 : w10.cell? ⟨w.heap.size, 0, none⟩ = some (.int .i64 l0) := by rw [xp0_10.cell]; rfl
  have cp0_1 : w10.cell? ⟨w.heap.size, 1, none⟩ = some (.slice A0 n0 c0) := by rw [xp0_10.cell]; rfl
  have lp0 := xp0_10.lt
  have XP0_10 := Lib.hid xp0_10
  clear xp0_10
  have cv5_0 : w10.cell? ⟨w4.heap.size, 0, none⟩ = some (.string r0) := by rw [xv5_10.cell]; rfl
  have cv5_1 : w10.cell? ⟨w4.heap.size, 1, none⟩ = some (.int .i64 r1) := by rw [xv5_10.cell]; rfl
  have cv5_2 : w10.cell? ⟨w4.heap.size, 2, none⟩ = some (.int .i64 r2) := by rw [xv5_10.cell]; rfl
  have lv5 := xv5_10.lt
  have XV5_10 := Lib.hid xv5_10
  clear xv5_10
  have cv7_0 : w10.cell? ⟨w6.heap.size, 0, none⟩ = some (.int .i64 l0) := by rw [xv7_10.cell]; rfl
  have cv7_1 : w10.cell? ⟨w6.heap.size, 1, none⟩ = some (.slice B6 n0 d6) := by rw [xv7_10.cell]; rfl
  have lv7 := xv7_10.lt
  have XV7_10 := Lib.hid xv7_10
  clear xv7_10
  have cv9_0 : w10.cell? ⟨w8.heap.size, 0, none⟩ = some (.string r0) := by rw [xv9_10.cell]; rfl
  have cv9_1 : w10.cell? ⟨w8.heap.size, 1, none⟩ = some (.int .i64 r1) := by rw [xv9_10.cell]; rfl
  have cv9_2 : w10.cell? ⟨w8.heap.size, 2, none⟩ = some (.int .i64 r2) := by rw [xv9_10.cell]; rfl
  have lv9 := xv9_10.lt
  have XV9_10 := Lib.hid xv9_10
  clear xv9_10
  go_wp2_with fail
  have eS : ∀ w', Below w10.drew.heap.size w10.drew w' → w'.cell? ⟨w.heap.size, 0, none⟩ = some (.int .i64 l0) ∧ w'.cell? ⟨w.heap.size, 1, none⟩ = some (.slice A0 n0 c0) ∧ w'.cell? ⟨w4.heap.size, 0, none⟩ = some (.string r0) ∧ w'.cell? ⟨w4.heap.size, 1, none⟩ = some (.int .i64 r1) ∧ w'.cell? ⟨w4.heap.size, 2, none⟩ = some (.int .i64 r2) ∧ w'.cell? ⟨w6.heap.size, 0, none⟩ = some (.int .i64 l0) ∧ w'.cell? ⟨w6.heap.size, 1, none⟩ = some (.slice B6 n0 d6) ∧ w'.cell? ⟨w8.heap.size, 0, none⟩ = some (.string r0) ∧ w'.cell? ⟨w8.heap.size, 1, none⟩ = some (.int .i64 r1) ∧ w'.cell? ⟨w8.heap.size, 2, none⟩ = some (.int .i64 r2) := fun w' hb => ⟨(hb.cell (p := ⟨w.heap.size, 0, none⟩) XP0_10.out.lt).trans cp0_0, (hb.cell (p := ⟨w.heap.size, 1, none⟩) XP0_10.out.lt).trans cp0_1, (hb.cell (p := ⟨w4.heap.size, 0, none⟩) XV5_10.out.lt).trans cv5_0, (hb.cell (p := ⟨w4.heap.size, 1, none⟩) XV5_10.out.lt).trans cv5_1, (hb.cell (p := ⟨w4.heap.size, 2, none⟩) XV5_10.out.lt).trans cv5_2, (hb.cell (p := ⟨w6.heap.size, 0, none⟩) XV7_10.out.lt).trans cv7_0, (hb.cell (p := ⟨w6.heap.size, 1, none⟩) XV7_10.out.lt).trans cv7_1, (hb.cell (p := ⟨w8.heap.size, 0, none⟩) XV9_10.out.lt).trans cv9_0, (hb.cell (p := ⟨w8.heap.size, 1, none⟩) XV9_10.out.lt).trans cv9_1, (hb.cell (p := ⟨w8.heap.size, 2, none⟩) XV9_10.out.lt).trans cv9_2⟩
  have zS := eS _ (Below.refl _ _)
  have ES := Lib.hid eS
  clear eS
  have ZS := Lib.hid zS
  clear zS
  go_region_held3 (fun w' => w'.cell? ⟨w.heap.size, 0, none⟩ = some (.int .i64 l0) ∧ w'.cell? ⟨w.heap.size, 1, none⟩ = some (.slice A0 n0 c0) ∧ w'.cell? ⟨w4.heap.size, 0, none⟩ = some (.string r0) ∧ w'.cell? ⟨w4.heap.size, 1, none⟩ = some (.int .i64 r1) ∧ w'.cell? ⟨w4.heap.size, 2, none⟩ = some (.int .i64 r2) ∧ w'.cell? ⟨w6.heap.size, 0, none⟩ = some (.int .i64 l0) ∧ w'.cell? ⟨w6.heap.size, 1, none⟩ = some (.slice B6 n0 d6) ∧ w'.cell? ⟨w8.heap.size, 0, none⟩ = some (.string r0) ∧ w'.cell? ⟨w8.heap.size, 1, none⟩ = some (.int .i64 r1) ∧ w'.cell? ⟨w8.heap.size, 2, none⟩ = some (.int .i64 r2)) (first | exact ZS.out | assumption) ((first | ((with_reducible refine (toSystem_any l0 A0 n0 c0 rs _ (Rd.drew (hr0.keep t10)) Hn0.out hb0 hy0).mono ?_); rintro e y10 ⟨B11, d11, rfl, oy10, hU1⟩; have hS1 := ES.out _ hU1; have oz10 := own_keep (w := w10.drew) ox6_10 hU1 (Nat.le_refl _)) | ((with_reducible refine (eqSystem_k l0 B6 n0 d6 rs l0 B11 n0 d11 rs _ (Rd.of_own oz10) Hn0.out (le_big hb0) (Rd.of_own oy10) Hn0.out (le_big hb0)).mono ?_); rintro e w11 ⟨rfl, hU2⟩; have hU3 := hU1.trans (hU2.mono hU1.size); have hS2 := ES.out _ hU3)))
  have b11 : Below w10.heap.size w10 w11 := ((Below.refl _ _).drew).trans hU3
  have t11 := t10.trans (b11.mono t10.size)
  clear hU1 hU2 hU3 hS1 hS2 ES ZS oy10 oz10
  clear lp0 cp0_0 cp0_1
  clear lv5 cv5_0 cv5_1 cv5_2
  clear lv7 cv7_0 cv7_1
  clear lv9 cv9_0 cv9_1 cv9_2
  have ox6_11 := own_keep ox6_10 b11 (Nat.le_refl _)
  clear ox6_10
  have xp0_11 := XP0_10.out.below b11 XP0_10.out.lt
  clear XP0_10
  have xv5_11 := XV5_10.out.below b11 XV5_10.out.lt
  clear XV5_10
  have xv7_11 := XV7_10.out.below b11 XV7_10.out.lt
  clear XV7_10
  have xv9_11 := XV9_10.out.below b11 XV9_10.out.lt
  clear XV9_10
  have cp0_0 : w11.cell? ⟨w.heap.size, 0, none⟩ = some (.int .i64 l0) := by rw [xp0_11.cell]; rfl
  have cp0_1 : w11.cell? ⟨w.heap.size, 1, none⟩ = some (.slice A0 n0 c0) := by rw [xp0_11.cell]; rfl
  have lp0 := xp0_11.lt
  have XP0_11 := Lib.hid xp0_11
  clear xp0_11
  have cv5_0 : w11.cell? ⟨w4.heap.size, 0, none⟩ = some (.string r0) := by rw [xv5_11.cell]; rfl
  have cv5_1 : w11.cell? ⟨w4.heap.size, 1, none⟩ = some (.int .i64 r1) := by rw [xv5_11.cell]; rfl
  have cv5_2 : w11.cell? ⟨w4.heap.size, 2, none⟩ = some (.int .i64 r2) := by rw [xv5_11.cell]; rfl
  have lv5 := xv5_11.lt
  have XV5_11 := Lib.hid xv5_11
  clear xv5_11
  have cv7_0 : w11.cell? ⟨w6.heap.size, 0, none⟩ = some (.int .i64 l0) := by rw [xv7_11.cell]; rfl
  have cv7_1 : w11.cell? ⟨w6.heap.size, 1, none⟩ = some (.slice B6 n0 d6) := by rw [xv7_11.cell]; rfl
  have lv7 := xv7_11.lt
  have XV7_11 := Lib.hid xv7_11
  clear xv7_11
  have cv9_0 : w11.cell? ⟨w8.heap.size, 0, none⟩ = some (.string r0) := by rw [xv9_11.cell]; rfl
  have cv9_1 : w11.cell? ⟨w8.heap.size, 1, none⟩ = some (.int .i64 r1) := by rw [xv9_11.cell]; rfl
  have cv9_2 : w11.cell? ⟨w8.heap.size, 2, none⟩ = some (.int .i64 r2) := by rw [xv9_11.cell]; rfl
  have lv9 := xv9_11.lt
  have XV9_11 := Lib.hid xv9_11
  clear xv9_11
  go_wp2_with fail
  go_ret
  exact ⟨rfl, t11⟩
  
set_option maxRecDepth 100000 in
theorem lifted_RunLoop (os : Os) (started : os.Started) (H : Type) (enc : TypeId × Value → H) :
    ReturnsInHanded {} Try.checked os 9 .any (Rows.fnExactRunLoopSpec.pre6 enc Try.prog Try.f9 Rows.fnExactRunLoopRow.domain false) (Rows.fnExactRunLoopSpec.post enc Try.prog Try.f9 false true false false) := by
  refine returnsInHanded_of_change (C := Try.checked) own_knob started (by kernel_rfl) Try.func9
    (ChangeSpec.witness6 (enc := enc) (C := Try.checked) false ⟨#[], #[.agg #[.int .i64 0, .slice none 0 0], .string ⟨#[]⟩], []⟩ 8 (by kernel_rfl) (by kernel_rfl) (by kernel_rfl) (by kernel_rfl)) ?_
  intro W base args ds gs before hval0 hW _ _
  have hval : ∀ (j : Nat) t v, Try.f9.params[j]? = some t → args[j]? = some v → Value.okWide Try.prog W .any base t v := hval0
  have hW' := hW
  obtain ⟨p, q, hA0, hV, rfl, hfz, hnd⟩ := hW
  have hA : DataW.TrodAll enc Try.prog W 0 (fun _ => true) true Try.f9.params.toList args.toList ds p := hA0
  rw [Try.params9] at hA hval
  obtain ⟨v0, vs0, d0, ds0, p0, q0, hargs, rfl, rfl, h0, r0⟩ := trodAll_cons hA
  obtain ⟨v1, vs1, d1, ds1, p1, q1, rfl, rfl, rfl, h1, r1⟩ := trodAll_cons r0
  obtain ⟨rfl, rfl, rfl⟩ := trodAll_nil r1
  obtain rfl : args = #[v0, v1] := by cases args; simp_all
  obtain ⟨rfl, rfl⟩ := trodVars_none hV
  have k0 := h0
  have lt0 : ∀ x ∈ p0, x.block < W.heap.size := by obtain ⟨m, hm⟩ := k0; exact DataW.trod_lt m _ _ _ hm
  have k1 := h1
  have lt1 : ∀ x ∈ p1, x.block < W.heap.size := by obtain ⟨m, hm⟩ := k1; exact DataW.trod_lt m _ _ _ hm
  obtain ⟨z0, R0⟩ := open_system (hval 0 44 v0 rfl rfl) h0
  obtain ⟨a1, rfl, rfl, rfl, wf1⟩ := Go.ChangeMaps.open_string Try.underlying9 (hval 1 9 v1 rfl rfl) h1
  clear hA0 hval0
  refine (law_RunLoop W v0 z0 R0 a1 wf1).mono fun e W' ⟨he, bel⟩ => ?_
  subst he
  exact ⟨_, rfl, _, _, _, [], _, [], hW', trodAll_mk1 (shut_bool Try.underlying4 _), (trodAll_cons_mk (Below.trod laid_out (by kernel_rfl) (of_decide_eq_true (by kernel_rfl)) k0 bel lt0) (trodAll_cons_mk (Below.trod laid_out (by kernel_rfl) (of_decide_eq_true (by kernel_rfl)) k1 bel lt1) trodAll_mk0)), rfl, bel.frame _, fun h => by cases h⟩

theorem RunLoop_holds : Rows.FnExactRunLoopSaid :=
  OpenClaim.holds_of_wide 9 Try.f9 rfl rfl rfl rfl rfl rfl rfl ⟨rfl, rfl, rfl, rfl, rfl⟩ rfl rfl rfl rfl rfl (by kernel_rfl) Try.func9 (by kernel_rfl)
    (of_decide_eq_true (by kernel_rfl)) (by unfold Func.isWrapper; first | (rw [if_pos (by decide +kernel)]; kernel_rfl) | (rw [if_neg (by decide +kernel)]; exact ⟨rfl, rfl⟩))
    (fun os started H enc _ => lifted_RunLoop os started H enc)

end Go.Proofs.Ytgnmfneinnojnaa
