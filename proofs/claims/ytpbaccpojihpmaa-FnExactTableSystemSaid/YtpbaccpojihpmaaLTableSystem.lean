/- For every input the law FnExactTableSystem returns true and leaves its arguments as they were. No condition. -/
import Derived.Test.YtpbaccpojihpmaaTabSys
import Derived.Test.YtpbaccpojihpmaaTable
import Derived.Test.YtpbaccpojihpmaaSystem
import Derived.Test.YtpbaccpojihpmaaOpenArgs
import Derived.Test.YtpbaccpojihpmaaLawBase
namespace Go.Proofs.Ytpbaccpojihpmaa
open Go.ChangeShapes Go.WideShapes Go.ChangeAt Go.RowKit Go.Shelf

set_option maxRecDepth 100000 in
set_option maxHeartbeats 1000000 in
theorem law_TableSystem (w : World) (v0 : Value) (z0 : Int × Option Addr × Nat × Nat × List Int) (R0 : OpenTable w v0 z0) :
    Calls Try.prog 10 #[v0] w (Kept w (.bool true)) := by
  obtain ⟨l0, A0, n0, c0, xs⟩ := z0
  obtain ⟨rfl, hr0, hn0, hm0, hz0⟩ := R0
  dsimp only at hr0 hn0 hm0 hz0
  have Hn0 := Lib.hid hn0
  clear hn0
  go_enter Try.func10, Try.ntmps10
  go_wp2_with fail
  generalize hq : (w.alloc (.cells #[.int .i64 l0, .slice A0 n0 c0] 32)) = w1
  have b1 : Below w.heap.size w w1 := by rw [← hq]; exact ((Below.refl _ _).alloc (by simp <;> omega) _)
  have t1 := b1
  have xp0_1 : Bk w1 (w.heap.size) 32 #[.int .i64 l0, .slice A0 n0 c0] := by rw [← hq]; exact ((Bk.new w 32 #[.int .i64 l0, .slice A0 n0 c0])).cast (by simp)
  clear hq
  have cp0_0 : w1.cell? ⟨w.heap.size, 0, none⟩ = some (.int .i64 l0) := by rw [xp0_1.cell]; rfl
  have cp0_1 : w1.cell? ⟨w.heap.size, 1, none⟩ = some (.slice A0 n0 c0) := by rw [xp0_1.cell]; rfl
  have lp0 := xp0_1.lt
  have XP0_1 := Lib.hid xp0_1
  clear xp0_1
  (try go_wp2_with fail)
  (with_reducible refine (szTable_any l0 A0 n0 c0 xs 1048576 _ (hr0.keep t1) Hn0.out hm0 (by omega) (by omega)).mono ?_)
  rintro e w2 ⟨rfl, b2⟩
  have t2 := t1.trans (b2.mono t1.size)
  clear lp0 cp0_0 cp0_1
  have xp0_2 := XP0_1.out.below b2 XP0_1.out.lt
  clear XP0_1
  have cp0_0 : w2.cell? ⟨w.heap.size, 0, none⟩ = some (.int .i64 l0) := by rw [xp0_2.cell]; rfl
  have cp0_1 : w2.cell? ⟨w.heap.size, 1, none⟩ = some (.slice A0 n0 c0) := by rw [xp0_2.cell]; rfl
  have lp0 := xp0_2.lt
  have XP0_2 := Lib.hid xp0_2
  clear xp0_2
  by_cases ht0 : (1048576 : Int) - (totInt xs : Nat) < 0
  · rw [szLeft, if_pos ht0]
    go_wp2_with fail
    go_ret
    exact ⟨rfl, t2⟩
  rw [szLeft, if_neg ht0]
  have hs0 : totInt xs ≤ 1048576 := by omega
  have hb0 : n0 ≤ 1048576 := by have := tot_len_ints xs; have := Hn0.out; omega
  have hl0 : (0 : Int) ≤ 1048576 - (totInt xs : Nat) := by omega
  clear ht0
  go_wp2_with fail
  (with_reducible refine (toTable_any l0 A0 n0 c0 xs _ (hr0.keep t2) Hn0.out hb0).mono ?_)
  rintro e w3 ⟨B3, d3, rfl, ox3_3, b3⟩
  have t3 := t2.trans (b3.mono t2.size)
  clear lp0 cp0_0 cp0_1
  have xp0_3 := XP0_2.out.below b3 XP0_2.out.lt
  clear XP0_2
  have cp0_0 : w3.cell? ⟨w.heap.size, 0, none⟩ = some (.int .i64 l0) := by rw [xp0_3.cell]; rfl
  have cp0_1 : w3.cell? ⟨w.heap.size, 1, none⟩ = some (.slice A0 n0 c0) := by rw [xp0_3.cell]; rfl
  have lp0 := xp0_3.lt
  have XP0_3 := Lib.hid xp0_3
  clear xp0_3
  go_wp2_with fail
  (with_reducible refine (specTableSystem_any l0 B3 n0 d3 xs _ (Rd.of_own ox3_3) Hn0.out hb0).mono ?_)
  rintro e w4 ⟨B4, d4, rfl, og4_4, b4⟩
  have t4 := t3.trans (b4.mono t3.size)
  have a_x3_g4 := Lib.hid (own_apart ox3_3 og4_4 (Nat.le_refl _))
  have a_g4_x3 := Lib.hid (own_apart' og4_4 ox3_3 (Nat.le_refl _))
  clear lp0 cp0_0 cp0_1
  have ox3_4 := own_keep ox3_3 b4 (Nat.le_refl _)
  clear ox3_3
  have xp0_4 := XP0_3.out.below b4 XP0_3.out.lt
  clear XP0_3
  have cp0_0 : w4.cell? ⟨w.heap.size, 0, none⟩ = some (.int .i64 l0) := by rw [xp0_4.cell]; rfl
  have cp0_1 : w4.cell? ⟨w.heap.size, 1, none⟩ = some (.slice A0 n0 c0) := by rw [xp0_4.cell]; rfl
  have lp0 := xp0_4.lt
  have XP0_4 := Lib.hid xp0_4
  clear xp0_4
  clear ox3_4
  go_wp2_with fail
  generalize hq : w4.alloc (.cells #[.int .i64 (tsL l0 xs), .slice B4 ((tss l0 xs).length) d4] 60) = w5
  have b5 : Below w4.heap.size w4 w5 := by rw [← hq]; exact (Below.refl _ _).alloc (Nat.le_refl _) _
  have t5 := t4.trans (b5.mono t4.size)
  have xv5_5 : Bk w5 w4.heap.size 60 #[.int .i64 (tsL l0 xs), .slice B4 ((tss l0 xs).length) d4] := by rw [← hq]; exact Bk.new _ _ _
  clear hq
  clear lp0 cp0_0 cp0_1
  have og4_5 := own_keep og4_4 b5 (Nat.le_refl _)
  clear og4_4
  have xp0_5 := XP0_4.out.below b5 XP0_4.out.lt
  clear XP0_4
  have cp0_0 : w5.cell? ⟨w.heap.size, 0, none⟩ = some (.int .i64 l0) := by rw [xp0_5.cell]; rfl
  have cp0_1 : w5.cell? ⟨w.heap.size, 1, none⟩ = some (.slice A0 n0 c0) := by rw [xp0_5.cell]; rfl
  have lp0 := xp0_5.lt
  have XP0_5 := Lib.hid xp0_5
  clear xp0_5
  have cv5_0 : w5.cell? ⟨w4.heap.size, 0, none⟩ = some (.int .i64 (tsL l0 xs)) := by rw [xv5_5.cell]; rfl
  have cv5_1 : w5.cell? ⟨w4.heap.size, 1, none⟩ = some (.slice B4 ((tss l0 xs).length) d4) := by rw [xv5_5.cell]; rfl
  have lv5 := xv5_5.lt
  have XV5_5 := Lib.hid xv5_5
  clear xv5_5
  (try go_wp2_with fail)
  (with_reducible refine (toTable_any l0 A0 n0 c0 xs _ (hr0.keep t5) Hn0.out hb0).mono ?_)
  rintro e w6 ⟨B6, d6, rfl, ox6_6, b6⟩
  have t6 := t5.trans (b6.mono t5.size)
  have a_g4_x6 := Lib.hid (own_apart og4_5 ox6_6 (Nat.le_refl _))
  have a_x6_g4 := Lib.hid (own_apart' ox6_6 og4_5 (Nat.le_refl _))
  clear lp0 cp0_0 cp0_1
  clear lv5 cv5_0 cv5_1
  have og4_6 := own_keep og4_5 b6 (Nat.le_refl _)
  clear og4_5
  have xp0_6 := XP0_5.out.below b6 XP0_5.out.lt
  clear XP0_5
  have xv5_6 := XV5_5.out.below b6 XV5_5.out.lt
  clear XV5_5
  have cp0_0 : w6.cell? ⟨w.heap.size, 0, none⟩ = some (.int .i64 l0) := by rw [xp0_6.cell]; rfl
  have cp0_1 : w6.cell? ⟨w.heap.size, 1, none⟩ = some (.slice A0 n0 c0) := by rw [xp0_6.cell]; rfl
  have lp0 := xp0_6.lt
  have XP0_6 := Lib.hid xp0_6
  clear xp0_6
  have cv5_0 : w6.cell? ⟨w4.heap.size, 0, none⟩ = some (.int .i64 (tsL l0 xs)) := by rw [xv5_6.cell]; rfl
  have cv5_1 : w6.cell? ⟨w4.heap.size, 1, none⟩ = some (.slice B4 ((tss l0 xs).length) d4) := by rw [xv5_6.cell]; rfl
  have lv5 := xv5_6.lt
  have XV5_6 := Lib.hid xv5_6
  clear xv5_6
  go_wp2_with fail
  generalize hq : w6.alloc (.cells #[.int .i64 l0, .slice B6 n0 d6] 34) = w7
  have b7 : Below w6.heap.size w6 w7 := by rw [← hq]; exact (Below.refl _ _).alloc (Nat.le_refl _) _
  have t7 := t6.trans (b7.mono t6.size)
  have xv7_7 : Bk w7 w6.heap.size 34 #[.int .i64 l0, .slice B6 n0 d6] := by rw [← hq]; exact Bk.new _ _ _
  clear hq
  clear lp0 cp0_0 cp0_1
  clear lv5 cv5_0 cv5_1
  have og4_7 := own_keep og4_6 b7 (Nat.le_refl _)
  clear og4_6
  have ox6_7 := own_keep ox6_6 b7 (Nat.le_refl _)
  clear ox6_6
  have xp0_7 := XP0_6.out.below b7 XP0_6.out.lt
  clear XP0_6
  have xv5_7 := XV5_6.out.below b7 XV5_6.out.lt
  clear XV5_6
  have cp0_0 : w7.cell? ⟨w.heap.size, 0, none⟩ = some (.int .i64 l0) := by rw [xp0_7.cell]; rfl
  have cp0_1 : w7.cell? ⟨w.heap.size, 1, none⟩ = some (.slice A0 n0 c0) := by rw [xp0_7.cell]; rfl
  have lp0 := xp0_7.lt
  have XP0_7 := Lib.hid xp0_7
  clear xp0_7
  have cv5_0 : w7.cell? ⟨w4.heap.size, 0, none⟩ = some (.int .i64 (tsL l0 xs)) := by rw [xv5_7.cell]; rfl
  have cv5_1 : w7.cell? ⟨w4.heap.size, 1, none⟩ = some (.slice B4 ((tss l0 xs).length) d4) := by rw [xv5_7.cell]; rfl
  have lv5 := xv5_7.lt
  have XV5_7 := Lib.hid xv5_7
  clear xv5_7
  have cv7_0 : w7.cell? ⟨w6.heap.size, 0, none⟩ = some (.int .i64 l0) := by rw [xv7_7.cell]; rfl
  have cv7_1 : w7.cell? ⟨w6.heap.size, 1, none⟩ = some (.slice B6 n0 d6) := by rw [xv7_7.cell]; rfl
  have lv7 := xv7_7.lt
  have XV7_7 := Lib.hid xv7_7
  clear xv7_7
  (try go_wp2_with fail)
  (with_reducible refine (implTableSystem_any l0 B6 n0 d6 xs _ (Rd.of_own ox6_7) Hn0.out hb0).mono ?_)
  rintro e w8 ⟨B8, d8, rfl, og8_8, b8⟩
  have t8 := t7.trans (b8.mono t7.size)
  have a_g4_g8 := Lib.hid (own_apart og4_7 og8_8 (Nat.le_refl _))
  have a_g8_g4 := Lib.hid (own_apart' og8_8 og4_7 (Nat.le_refl _))
  have a_x6_g8 := Lib.hid (own_apart ox6_7 og8_8 (Nat.le_refl _))
  have a_g8_x6 := Lib.hid (own_apart' og8_8 ox6_7 (Nat.le_refl _))
  clear lp0 cp0_0 cp0_1
  clear lv5 cv5_0 cv5_1
  clear lv7 cv7_0 cv7_1
  have og4_8 := own_keep og4_7 b8 (Nat.le_refl _)
  clear og4_7
  have ox6_8 := own_keep ox6_7 b8 (Nat.le_refl _)
  clear ox6_7
  have xp0_8 := XP0_7.out.below b8 XP0_7.out.lt
  clear XP0_7
  have xv5_8 := XV5_7.out.below b8 XV5_7.out.lt
  clear XV5_7
  have xv7_8 := XV7_7.out.below b8 XV7_7.out.lt
  clear XV7_7
  have cp0_0 : w8.cell? ⟨w.heap.size, 0, none⟩ = some (.int .i64 l0) := by rw [xp0_8.cell]; rfl
  have cp0_1 : w8.cell? ⟨w.heap.size, 1, none⟩ = some (.slice A0 n0 c0) := by rw [xp0_8.cell]; rfl
  have lp0 := xp0_8.lt
  have XP0_8 := Lib.hid xp0_8
  clear xp0_8
  have cv5_0 : w8.cell? ⟨w4.heap.size, 0, none⟩ = some (.int .i64 (tsL l0 xs)) := by rw [xv5_8.cell]; rfl
  have cv5_1 : w8.cell? ⟨w4.heap.size, 1, none⟩ = some (.slice B4 ((tss l0 xs).length) d4) := by rw [xv5_8.cell]; rfl
  have lv5 := xv5_8.lt
  have XV5_8 := Lib.hid xv5_8
  clear xv5_8
  have cv7_0 : w8.cell? ⟨w6.heap.size, 0, none⟩ = some (.int .i64 l0) := by rw [xv7_8.cell]; rfl
  have cv7_1 : w8.cell? ⟨w6.heap.size, 1, none⟩ = some (.slice B6 n0 d6) := by rw [xv7_8.cell]; rfl
  have lv7 := xv7_8.lt
  have XV7_8 := Lib.hid xv7_8
  clear xv7_8
  go_wp2_with fail
  generalize hq : w8.alloc (.cells #[.int .i64 (tsL l0 xs), .slice B8 ((tss l0 xs).length) d8] 60) = w9
  have b9 : Below w8.heap.size w8 w9 := by rw [← hq]; exact (Below.refl _ _).alloc (Nat.le_refl _) _
  have t9 := t8.trans (b9.mono t8.size)
  have xv9_9 : Bk w9 w8.heap.size 60 #[.int .i64 (tsL l0 xs), .slice B8 ((tss l0 xs).length) d8] := by rw [← hq]; exact Bk.new _ _ _
  clear hq
  clear lp0 cp0_0 cp0_1
  clear lv5 cv5_0 cv5_1
  clear lv7 cv7_0 cv7_1
  have og4_9 := own_keep og4_8 b9 (Nat.le_refl _)
  clear og4_8
  have ox6_9 := own_keep ox6_8 b9 (Nat.le_refl _)
  clear ox6_8
  have og8_9 := own_keep og8_8 b9 (Nat.le_refl _)
  clear og8_8
  have xp0_9 := XP0_8.out.below b9 XP0_8.out.lt
  clear XP0_8
  have xv5_9 := XV5_8.out.below b9 XV5_8.out.lt
  clear XV5_8
  have xv7_9 := XV7_8.out.below b9 XV7_8.out.lt
  clear XV7_8
  have cp0_0 : w9.cell? ⟨w.heap.size, 0, none⟩ = some (.int .i64 l0) := by rw [xp0_9.cell]; rfl
  have cp0_1 : w9.cell? ⟨w.heap.size, 1, none⟩ = some (.slice A0 n0 c0) := by rw [xp0_9.cell]; rfl
  have lp0 := xp0_9.lt
  have XP0_9 := Lib.hid xp0_9
  clear xp0_9
  have cv5_0 : w9.cell? ⟨w4.heap.size, 0, none⟩ = some (.int .i64 (tsL l0 xs)) := by rw [xv5_9.cell]; rfl
  have cv5_1 : w9.cell? ⟨w4.heap.size, 1, none⟩ = some (.slice B4 ((tss l0 xs).length) d4) := by rw [xv5_9.cell]; rfl
  have lv5 := xv5_9.lt
  have XV5_9 := Lib.hid xv5_9
  clear xv5_9
  have cv7_0 : w9.cell? ⟨w6.heap.size, 0, none⟩ = some (.int .i64 l0) := by rw [xv7_9.cell]; rfl
  have cv7_1 : w9.cell? ⟨w6.heap.size, 1, none⟩ = some (.slice B6 n0 d6) := by rw [xv7_9.cell]; rfl
  have lv7 := xv7_9.lt
  have XV7_9 := Lib.hid xv7_9
  clear xv7_9
  have cv9_0 : w9.cell? ⟨w8.heap.size, 0, none⟩ = some (.int .i64 (tsL l0 xs)) := by rw [xv9_9.cell]; rfl
  have cv9_1 : w9.cell? ⟨w8.heap.size, 1, none⟩ = some (.slice B8 ((tss l0 xs).length) d8) := by rw [xv9_9.cell]; rfl
  have lv9 := xv9_9.lt
  have XV9_9 := Lib.hid xv9_9
  clear xv9_9
  (try go_wp2_with fail)
  (with_reducible refine (eqSystem_k (tsL l0 xs) B8 ((tss l0 xs).length) d8 (tss l0 xs) (tsL l0 xs)  B4 ((tss l0 xs).length) d4 (tss l0 xs) _ (Rd.of_own og8_9) rfl (le_big (tss_len l0 xs)) (Rd.of_own og4_9) rfl (le_big (tss_len l0 xs))).mono ?_)
  rintro e w10 ⟨rfl, b10⟩
  have t10 := t9.trans (b10.mono t9.size)
  clear lp0 cp0_0 cp0_1
  clear lv5 cv5_0 cv5_1
  clear lv7 cv7_0 cv7_1
  clear lv9 cv9_0 cv9_1
  have og4_10 := own_keep og4_9 b10 (Nat.le_refl _)
  clear og4_9
  have ox6_10 := own_keep ox6_9 b10 (Nat.le_refl _)
  clear ox6_9
  have og8_10 := own_keep og8_9 b10 (Nat.le_refl _)
  clear og8_9
  have xp0_10 := XP0_9.out.below b10 XP0_9.out.lt
  clear XP0_9
  have xv5_10 := XV5_9.out.below b10 XV5_9.out.lt
  clear XV5_9
  have xv7_10 := XV7_9.out.below b10 XV7_9.out.lt
  clear XV7_9
  have xv9_10 := XV9_9.out.below b10 XV9_9.out.lt
  clear XV9_9
  have cp0_0 : w10.cell? ⟨w.heap.size, 0, none⟩ = some (.int .i64 l0) := by rw [xp0_10.cell]; rfl
  have cp0_1 : w10.cell? ⟨w.heap.size, 1, none⟩ = some (.slice A0 n0 c0) := by rw [xp0_10.cell]; rfl
  have lp0 := xp0_10.lt
  have XP0_10 := Lib.hid xp0_10
  clear xp0_10
  have cv5_0 : w10.cell? ⟨w4.heap.size, 0, none⟩ = some (.int .i64 (tsL l0 xs)) := by rw [xv5_10.cell]; rfl
  have cv5_1 : w10.cell? ⟨w4.heap.size, 1, none⟩ = some (.slice B4 ((tss l0 xs).length) d4) := by rw [xv5_10.cell]; rfl
  have lv5 := xv5_10.lt
  have XV5_10 := Lib.hid xv5_10
  clear xv5_10
  have cv7_0 : w10.cell? ⟨w6.heap.size, 0, none⟩ = some (.int .i64 l0) := by rw [xv7_10.cell]; rfl
  have cv7_1 : w10.cell? ⟨w6.heap.size, 1, none⟩ = some (.slice B6 n0 d6) := by rw [xv7_10.cell]; rfl
  have lv7 := xv7_10.lt
  have XV7_10 := Lib.hid xv7_10
  clear xv7_10
  have cv9_0 : w10.cell? ⟨w8.heap.size, 0, none⟩ = some (.int .i64 (tsL l0 xs)) := by rw [xv9_10.cell]; rfl
  have cv9_1 : w10.cell? ⟨w8.heap.size, 1, none⟩ = some (.slice B8 ((tss l0 xs).length) d8) := by rw [xv9_10.cell]; rfl
  have lv9 := xv9_10.lt
  have XV9_10 := Lib.hid xv9_10
  clear xv9_10
  go_wp2_with fail
  have eS : ∀ w', Below w10.drew.heap.size w10.drew w' → w'.cell? ⟨w.heap.size, 0, none⟩ = some (.int .i64 l0) ∧ w'.cell? ⟨w.heap.size, 1, none⟩ = some (.slice A0 n0 c0) ∧ w'.cell? ⟨w4.heap.size, 0, none⟩ = some (.int .i64 (tsL l0 xs)) ∧ w'.cell? ⟨w4.heap.size, 1, none⟩ = some (.slice B4 ((tss l0 xs).length) d4) ∧ w'.cell? ⟨w6.heap.size, 0, none⟩ = some (.int .i64 l0) ∧ w'.cell? ⟨w6.heap.size, 1, none⟩ = some (.slice B6 n0 d6) ∧ w'.cell? ⟨w8.heap.size, 0, none⟩ = some (.int .i64 (tsL l0 xs)) ∧ w'.cell? ⟨w8.heap.size, 1, none⟩ = some (.slice B8 ((tss l0 xs).length) d8) := fun w' hb => ⟨(hb.cell (p := ⟨w.heap.size, 0, none⟩) XP0_10.out.lt).trans cp0_0, (hb.cell (p := ⟨w.heap.size, 1, none⟩) XP0_10.out.lt).trans cp0_1, (hb.cell (p := ⟨w4.heap.size, 0, none⟩) XV5_10.out.lt).trans cv5_0, (hb.cell (p := ⟨w4.heap.size, 1, none⟩) XV5_10.out.lt).trans cv5_1, (hb.cell (p := ⟨w6.heap.size, 0, none⟩) XV7_10.out.lt).trans cv7_0, (hb.cell (p := ⟨w6.heap.size, 1, none⟩) XV7_10.out.lt).trans cv7_1, (hb.cell (p := ⟨w8.heap.size, 0, none⟩) XV9_10.out.lt).trans cv9_0, (hb.cell (p := ⟨w8.heap.size, 1, none⟩) XV9_10.out.lt).trans cv9_1⟩
  have zS := eS _ (Below.refl _ _)
  have ES := Lib.hid eS
  clear eS
  have ZS := Lib.hid zS
  clear zS
  go_region_held3 (fun w' => w'.cell? ⟨w.heap.size, 0, none⟩ = some (.int .i64 l0) ∧ w'.cell? ⟨w.heap.size, 1, none⟩ = some (.slice A0 n0 c0) ∧ w'.cell? ⟨w4.heap.size, 0, none⟩ = some (.int .i64 (tsL l0 xs)) ∧ w'.cell? ⟨w4.heap.size, 1, none⟩ = some (.slice B4 ((tss l0 xs).length) d4) ∧ w'.cell? ⟨w6.heap.size, 0, none⟩ = some (.int .i64 l0) ∧ w'.cell? ⟨w6.heap.size, 1, none⟩ = some (.slice B6 n0 d6) ∧ w'.cell? ⟨w8.heap.size, 0, none⟩ = some (.int .i64 (tsL l0 xs)) ∧ w'.cell? ⟨w8.heap.size, 1, none⟩ = some (.slice B8 ((tss l0 xs).length) d8)) (first | exact ZS.out | assumption) ((first | ((with_reducible refine (toTable_any l0 A0 n0 c0 xs _ (Rd.drew (hr0.keep t10)) Hn0.out hb0).mono ?_); rintro e y10 ⟨B11, d11, rfl, oy10, hU1⟩; have hS1 := ES.out _ hU1; have oz10 := own_keep (w := w10.drew) ox6_10 hU1 (Nat.le_refl _)) | ((with_reducible refine (eqTable_k l0 B6 n0 d6 xs l0 B11 n0 d11 xs _ (Rd.of_own oz10) Hn0.out (le_big hb0) (Rd.of_own oy10) Hn0.out (le_big hb0)).mono ?_); rintro e w11 ⟨rfl, hU2⟩; have hU3 := hU1.trans (hU2.mono hU1.size); have hS2 := ES.out _ hU3)))
  have b11 : Below w10.heap.size w10 w11 := ((Below.refl _ _).drew).trans hU3
  have t11 := t10.trans (b11.mono t10.size)
  clear hU1 hU2 hU3 hS1 hS2 ES ZS oy10 oz10
  clear lp0 cp0_0 cp0_1
  clear lv5 cv5_0 cv5_1
  clear lv7 cv7_0 cv7_1
  clear lv9 cv9_0 cv9_1
  have og4_11 := own_keep og4_10 b11 (Nat.le_refl _)
  clear og4_10
  have ox6_11 := own_keep ox6_10 b11 (Nat.le_refl _)
  clear ox6_10
  have og8_11 := own_keep og8_10 b11 (Nat.le_refl _)
  clear og8_10
  have xp0_11 := XP0_10.out.below b11 XP0_10.out.lt
  clear XP0_10
  have xv5_11 := XV5_10.out.below b11 XV5_10.out.lt
  clear XV5_10
  have xv7_11 := XV7_10.out.below b11 XV7_10.out.lt
  clear XV7_10
  have xv9_11 := XV9_10.out.below b11 XV9_10.out.lt
  clear XV9_10
  have cp0_0 : w11.cell? ⟨w.heap.size, 0, none⟩ = some (.int .i64 l0) := by rw [xp0_11.cell]; rfl
  have cp0_1 : w11.cell? ⟨w.heap.size, 1, none⟩ = some (.slice A0 n0 c0) := by rw [xp0_11.cell]; rfl
  have lp0 := xp0_11.lt
  have XP0_11 := Lib.hid xp0_11
  clear xp0_11
  have cv5_0 : w11.cell? ⟨w4.heap.size, 0, none⟩ = some (.int .i64 (tsL l0 xs)) := by rw [xv5_11.cell]; rfl
  have cv5_1 : w11.cell? ⟨w4.heap.size, 1, none⟩ = some (.slice B4 ((tss l0 xs).length) d4) := by rw [xv5_11.cell]; rfl
  have lv5 := xv5_11.lt
  have XV5_11 := Lib.hid xv5_11
  clear xv5_11
  have cv7_0 : w11.cell? ⟨w6.heap.size, 0, none⟩ = some (.int .i64 l0) := by rw [xv7_11.cell]; rfl
  have cv7_1 : w11.cell? ⟨w6.heap.size, 1, none⟩ = some (.slice B6 n0 d6) := by rw [xv7_11.cell]; rfl
  have lv7 := xv7_11.lt
  have XV7_11 := Lib.hid xv7_11
  clear xv7_11
  have cv9_0 : w11.cell? ⟨w8.heap.size, 0, none⟩ = some (.int .i64 (tsL l0 xs)) := by rw [xv9_11.cell]; rfl
  have cv9_1 : w11.cell? ⟨w8.heap.size, 1, none⟩ = some (.slice B8 ((tss l0 xs).length) d8) := by rw [xv9_11.cell]; rfl
  have lv9 := xv9_11.lt
  have XV9_11 := Lib.hid xv9_11
  clear xv9_11
  go_wp2_with fail
  (with_reducible refine (markTable_any l0 B6 n0 d6 _ 1 _ _ ox6_11 (by omega) (by have := hb0; omega)).mono ?_)
  rintro e w12 ⟨rfl, ox6_12, gr12⟩
  have t12 := below_marked t11 gr12 ox6_11 t5.size
  have og4_12 := og4_11.kept gr12 a_g4_x6.out
  clear og4_11
  have og8_12 := og8_11.kept gr12 a_g8_x6.out
  clear og8_11
  clear lp0 cp0_0 cp0_1
  clear lv5 cv5_0 cv5_1
  clear lv7 cv7_0 cv7_1
  clear lv9 cv9_0 cv9_1
  have xp0_12 := XP0_11.out.grown gr12 (own_bk_ne ox6_11 XP0_11.out (by decide))
  clear XP0_11
  have xv5_12 := XV5_11.out.grown gr12 (own_bk_ne ox6_11 XV5_11.out (by decide))
  clear XV5_11
  have xv7_12 := XV7_11.out.grown gr12 (own_bk_ne ox6_11 XV7_11.out (by decide))
  clear XV7_11
  have xv9_12 := XV9_11.out.grown gr12 (own_bk_ne ox6_11 XV9_11.out (by decide))
  clear XV9_11
  have cp0_0 : w12.cell? ⟨w.heap.size, 0, none⟩ = some (.int .i64 l0) := by rw [xp0_12.cell]; rfl
  have cp0_1 : w12.cell? ⟨w.heap.size, 1, none⟩ = some (.slice A0 n0 c0) := by rw [xp0_12.cell]; rfl
  have lp0 := xp0_12.lt
  have XP0_12 := Lib.hid xp0_12
  clear xp0_12
  have cv5_0 : w12.cell? ⟨w4.heap.size, 0, none⟩ = some (.int .i64 (tsL l0 xs)) := by rw [xv5_12.cell]; rfl
  have cv5_1 : w12.cell? ⟨w4.heap.size, 1, none⟩ = some (.slice B4 ((tss l0 xs).length) d4) := by rw [xv5_12.cell]; rfl
  have lv5 := xv5_12.lt
  have XV5_12 := Lib.hid xv5_12
  clear xv5_12
  have cv7_0 : w12.cell? ⟨w6.heap.size, 0, none⟩ = some (.int .i64 l0) := by rw [xv7_12.cell]; rfl
  have cv7_1 : w12.cell? ⟨w6.heap.size, 1, none⟩ = some (.slice B6 n0 d6) := by rw [xv7_12.cell]; rfl
  have lv7 := xv7_12.lt
  have XV7_12 := Lib.hid xv7_12
  clear xv7_12
  have cv9_0 : w12.cell? ⟨w8.heap.size, 0, none⟩ = some (.int .i64 (tsL l0 xs)) := by rw [xv9_12.cell]; rfl
  have cv9_1 : w12.cell? ⟨w8.heap.size, 1, none⟩ = some (.slice B8 ((tss l0 xs).length) d8) := by rw [xv9_12.cell]; rfl
  have lv9 := xv9_12.lt
  have XV9_12 := Lib.hid xv9_12
  clear xv9_12
  clear ox6_11 gr12
  go_wp2_with fail
  (with_reducible refine (eqSystem_k (tsL l0 xs) B8 ((tss l0 xs).length) d8 (tss l0 xs) (tsL l0 xs)  B4 ((tss l0 xs).length) d4 (tss l0 xs) _ (Rd.of_own og8_12) rfl (le_big (tss_len l0 xs)) (Rd.of_own og4_12) rfl (le_big (tss_len l0 xs))).mono ?_)
  rintro e w13 ⟨rfl, b13⟩
  have t13 := t12.trans (b13.mono t12.size)
  clear lp0 cp0_0 cp0_1
  clear lv5 cv5_0 cv5_1
  clear lv7 cv7_0 cv7_1
  clear lv9 cv9_0 cv9_1
  have og4_13 := own_keep og4_12 b13 (Nat.le_refl _)
  clear og4_12
  have ox6_13 := own_keep ox6_12 b13 (Nat.le_refl _)
  clear ox6_12
  have og8_13 := own_keep og8_12 b13 (Nat.le_refl _)
  clear og8_12
  have xp0_13 := XP0_12.out.below b13 XP0_12.out.lt
  clear XP0_12
  have xv5_13 := XV5_12.out.below b13 XV5_12.out.lt
  clear XV5_12
  have xv7_13 := XV7_12.out.below b13 XV7_12.out.lt
  clear XV7_12
  have xv9_13 := XV9_12.out.below b13 XV9_12.out.lt
  clear XV9_12
  have cp0_0 : w13.cell? ⟨w.heap.size, 0, none⟩ = some (.int .i64 l0) := by rw [xp0_13.cell]; rfl
  have cp0_1 : w13.cell? ⟨w.heap.size, 1, none⟩ = some (.slice A0 n0 c0) := by rw [xp0_13.cell]; rfl
  have lp0 := xp0_13.lt
  have XP0_13 := Lib.hid xp0_13
  clear xp0_13
  have cv5_0 : w13.cell? ⟨w4.heap.size, 0, none⟩ = some (.int .i64 (tsL l0 xs)) := by rw [xv5_13.cell]; rfl
  have cv5_1 : w13.cell? ⟨w4.heap.size, 1, none⟩ = some (.slice B4 ((tss l0 xs).length) d4) := by rw [xv5_13.cell]; rfl
  have lv5 := xv5_13.lt
  have XV5_13 := Lib.hid xv5_13
  clear xv5_13
  have cv7_0 : w13.cell? ⟨w6.heap.size, 0, none⟩ = some (.int .i64 l0) := by rw [xv7_13.cell]; rfl
  have cv7_1 : w13.cell? ⟨w6.heap.size, 1, none⟩ = some (.slice B6 n0 d6) := by rw [xv7_13.cell]; rfl
  have lv7 := xv7_13.lt
  have XV7_13 := Lib.hid xv7_13
  clear xv7_13
  have cv9_0 : w13.cell? ⟨w8.heap.size, 0, none⟩ = some (.int .i64 (tsL l0 xs)) := by rw [xv9_13.cell]; rfl
  have cv9_1 : w13.cell? ⟨w8.heap.size, 1, none⟩ = some (.slice B8 ((tss l0 xs).length) d8) := by rw [xv9_13.cell]; rfl
  have lv9 := xv9_13.lt
  have XV9_13 := Lib.hid xv9_13
  clear xv9_13
  go_wp2_with fail
  (with_reducible refine (markSystem_any (tsL l0 xs) B8 ((tss l0 xs).length) d8 _ 1 _ _ og8_13 (by omega) (by have := (tss_len l0 xs); omega)).mono ?_)
  rintro e w14 ⟨rfl, og8_14, gr14⟩
  have t14 := below_marked t13 gr14 og8_13 t7.size
  have og4_14 := og4_13.kept gr14 a_g4_g8.out
  clear og4_13
  have ox6_14 := ox6_13.kept gr14 a_x6_g8.out
  clear ox6_13
  clear lp0 cp0_0 cp0_1
  clear lv5 cv5_0 cv5_1
  clear lv7 cv7_0 cv7_1
  clear lv9 cv9_0 cv9_1
  have xp0_14 := XP0_13.out.grown gr14 (own_bk_ne og8_13 XP0_13.out (by decide))
  clear XP0_13
  have xv5_14 := XV5_13.out.grown gr14 (own_bk_ne og8_13 XV5_13.out (by decide))
  clear XV5_13
  have xv7_14 := XV7_13.out.grown gr14 (own_bk_ne og8_13 XV7_13.out (by decide))
  clear XV7_13
  have xv9_14 := XV9_13.out.grown gr14 (own_bk_ne og8_13 XV9_13.out (by decide))
  clear XV9_13
  have cp0_0 : w14.cell? ⟨w.heap.size, 0, none⟩ = some (.int .i64 l0) := by rw [xp0_14.cell]; rfl
  have cp0_1 : w14.cell? ⟨w.heap.size, 1, none⟩ = some (.slice A0 n0 c0) := by rw [xp0_14.cell]; rfl
  have lp0 := xp0_14.lt
  have XP0_14 := Lib.hid xp0_14
  clear xp0_14
  have cv5_0 : w14.cell? ⟨w4.heap.size, 0, none⟩ = some (.int .i64 (tsL l0 xs)) := by rw [xv5_14.cell]; rfl
  have cv5_1 : w14.cell? ⟨w4.heap.size, 1, none⟩ = some (.slice B4 ((tss l0 xs).length) d4) := by rw [xv5_14.cell]; rfl
  have lv5 := xv5_14.lt
  have XV5_14 := Lib.hid xv5_14
  clear xv5_14
  have cv7_0 : w14.cell? ⟨w6.heap.size, 0, none⟩ = some (.int .i64 l0) := by rw [xv7_14.cell]; rfl
  have cv7_1 : w14.cell? ⟨w6.heap.size, 1, none⟩ = some (.slice B6 n0 d6) := by rw [xv7_14.cell]; rfl
  have lv7 := xv7_14.lt
  have XV7_14 := Lib.hid xv7_14
  clear xv7_14
  have cv9_0 : w14.cell? ⟨w8.heap.size, 0, none⟩ = some (.int .i64 (tsL l0 xs)) := by rw [xv9_14.cell]; rfl
  have cv9_1 : w14.cell? ⟨w8.heap.size, 1, none⟩ = some (.slice B8 ((tss l0 xs).length) d8) := by rw [xv9_14.cell]; rfl
  have lv9 := xv9_14.lt
  have XV9_14 := Lib.hid xv9_14
  clear xv9_14
  clear og8_13 gr14
  go_wp2_with fail
  (with_reducible refine (heldSystem_k (tsL l0 xs) B8 ((tss l0 xs).length) d8 1 _ (Rd.of_own og8_14) (by omega) (by have := (tss_len l0 xs); omega)).mono ?_)
  rintro e w15 ⟨rfl, b15⟩
  have t15 := t14.trans (b15.mono t14.size)
  clear lp0 cp0_0 cp0_1
  clear lv5 cv5_0 cv5_1
  clear lv7 cv7_0 cv7_1
  clear lv9 cv9_0 cv9_1
  have og4_15 := own_keep og4_14 b15 (Nat.le_refl _)
  clear og4_14
  have ox6_15 := own_keep ox6_14 b15 (Nat.le_refl _)
  clear ox6_14
  have og8_15 := own_keep og8_14 b15 (Nat.le_refl _)
  clear og8_14
  have xp0_15 := XP0_14.out.below b15 XP0_14.out.lt
  clear XP0_14
  have xv5_15 := XV5_14.out.below b15 XV5_14.out.lt
  clear XV5_14
  have xv7_15 := XV7_14.out.below b15 XV7_14.out.lt
  clear XV7_14
  have xv9_15 := XV9_14.out.below b15 XV9_14.out.lt
  clear XV9_14
  have cp0_0 : w15.cell? ⟨w.heap.size, 0, none⟩ = some (.int .i64 l0) := by rw [xp0_15.cell]; rfl
  have cp0_1 : w15.cell? ⟨w.heap.size, 1, none⟩ = some (.slice A0 n0 c0) := by rw [xp0_15.cell]; rfl
  have lp0 := xp0_15.lt
  have XP0_15 := Lib.hid xp0_15
  clear xp0_15
  have cv5_0 : w15.cell? ⟨w4.heap.size, 0, none⟩ = some (.int .i64 (tsL l0 xs)) := by rw [xv5_15.cell]; rfl
  have cv5_1 : w15.cell? ⟨w4.heap.size, 1, none⟩ = some (.slice B4 ((tss l0 xs).length) d4) := by rw [xv5_15.cell]; rfl
  have lv5 := xv5_15.lt
  have XV5_15 := Lib.hid xv5_15
  clear xv5_15
  have cv7_0 : w15.cell? ⟨w6.heap.size, 0, none⟩ = some (.int .i64 l0) := by rw [xv7_15.cell]; rfl
  have cv7_1 : w15.cell? ⟨w6.heap.size, 1, none⟩ = some (.slice B6 n0 d6) := by rw [xv7_15.cell]; rfl
  have lv7 := xv7_15.lt
  have XV7_15 := Lib.hid xv7_15
  clear xv7_15
  have cv9_0 : w15.cell? ⟨w8.heap.size, 0, none⟩ = some (.int .i64 (tsL l0 xs)) := by rw [xv9_15.cell]; rfl
  have cv9_1 : w15.cell? ⟨w8.heap.size, 1, none⟩ = some (.slice B8 ((tss l0 xs).length) d8) := by rw [xv9_15.cell]; rfl
  have lv9 := xv9_15.lt
  have XV9_15 := Lib.hid xv9_15
  clear xv9_15
  go_wp2_with fail
  (with_reducible refine (toTable_any l0 A0 n0 c0 xs _ (hr0.keep t15) Hn0.out hb0).mono ?_)
  rintro e w16 ⟨B16, d16, rfl, ox16_16, b16⟩
  have t16 := t15.trans (b16.mono t15.size)
  have a_g4_x16 := Lib.hid (own_apart og4_15 ox16_16 (Nat.le_refl _))
  have a_x16_g4 := Lib.hid (own_apart' ox16_16 og4_15 (Nat.le_refl _))
  have a_x6_x16 := Lib.hid (own_apart ox6_15 ox16_16 (Nat.le_refl _))
  have a_x16_x6 := Lib.hid (own_apart' ox16_16 ox6_15 (Nat.le_refl _))
  have a_g8_x16 := Lib.hid (own_apart og8_15 ox16_16 (Nat.le_refl _))
  have a_x16_g8 := Lib.hid (own_apart' ox16_16 og8_15 (Nat.le_refl _))
  clear lp0 cp0_0 cp0_1
  clear lv5 cv5_0 cv5_1
  clear lv7 cv7_0 cv7_1
  clear lv9 cv9_0 cv9_1
  have og4_16 := own_keep og4_15 b16 (Nat.le_refl _)
  clear og4_15
  have ox6_16 := own_keep ox6_15 b16 (Nat.le_refl _)
  clear ox6_15
  have og8_16 := own_keep og8_15 b16 (Nat.le_refl _)
  clear og8_15
  have xp0_16 := XP0_15.out.below b16 XP0_15.out.lt
  clear XP0_15
  have xv5_16 := XV5_15.out.below b16 XV5_15.out.lt
  clear XV5_15
  have xv7_16 := XV7_15.out.below b16 XV7_15.out.lt
  clear XV7_15
  have xv9_16 := XV9_15.out.below b16 XV9_15.out.lt
  clear XV9_15
  have cp0_0 : w16.cell? ⟨w.heap.size, 0, none⟩ = some (.int .i64 l0) := by rw [xp0_16.cell]; rfl
  have cp0_1 : w16.cell? ⟨w.heap.size, 1, none⟩ = some (.slice A0 n0 c0) := by rw [xp0_16.cell]; rfl
  have lp0 := xp0_16.lt
  have XP0_16 := Lib.hid xp0_16
  clear xp0_16
  have cv5_0 : w16.cell? ⟨w4.heap.size, 0, none⟩ = some (.int .i64 (tsL l0 xs)) := by rw [xv5_16.cell]; rfl
  have cv5_1 : w16.cell? ⟨w4.heap.size, 1, none⟩ = some (.slice B4 ((tss l0 xs).length) d4) := by rw [xv5_16.cell]; rfl
  have lv5 := xv5_16.lt
  have XV5_16 := Lib.hid xv5_16
  clear xv5_16
  have cv7_0 : w16.cell? ⟨w6.heap.size, 0, none⟩ = some (.int .i64 l0) := by rw [xv7_16.cell]; rfl
  have cv7_1 : w16.cell? ⟨w6.heap.size, 1, none⟩ = some (.slice B6 n0 d6) := by rw [xv7_16.cell]; rfl
  have lv7 := xv7_16.lt
  have XV7_16 := Lib.hid xv7_16
  clear xv7_16
  have cv9_0 : w16.cell? ⟨w8.heap.size, 0, none⟩ = some (.int .i64 (tsL l0 xs)) := by rw [xv9_16.cell]; rfl
  have cv9_1 : w16.cell? ⟨w8.heap.size, 1, none⟩ = some (.slice B8 ((tss l0 xs).length) d8) := by rw [xv9_16.cell]; rfl
  have lv9 := xv9_16.lt
  have XV9_16 := Lib.hid xv9_16
  clear xv9_16
  go_wp2_with fail
  (with_reducible refine (implTableSystem_any l0 B16 n0 d16 xs _ (Rd.of_own ox16_16) Hn0.out hb0).mono ?_)
  rintro e w17 ⟨B17, d17, rfl, og17_17, b17⟩
  have t17 := t16.trans (b17.mono t16.size)
  have a_g4_g17 := Lib.hid (own_apart og4_16 og17_17 (Nat.le_refl _))
  have a_g17_g4 := Lib.hid (own_apart' og17_17 og4_16 (Nat.le_refl _))
  have a_x6_g17 := Lib.hid (own_apart ox6_16 og17_17 (Nat.le_refl _))
  have a_g17_x6 := Lib.hid (own_apart' og17_17 ox6_16 (Nat.le_refl _))
  have a_g8_g17 := Lib.hid (own_apart og8_16 og17_17 (Nat.le_refl _))
  have a_g17_g8 := Lib.hid (own_apart' og17_17 og8_16 (Nat.le_refl _))
  have a_x16_g17 := Lib.hid (own_apart ox16_16 og17_17 (Nat.le_refl _))
  have a_g17_x16 := Lib.hid (own_apart' og17_17 ox16_16 (Nat.le_refl _))
  clear lp0 cp0_0 cp0_1
  clear lv5 cv5_0 cv5_1
  clear lv7 cv7_0 cv7_1
  clear lv9 cv9_0 cv9_1
  have og4_17 := own_keep og4_16 b17 (Nat.le_refl _)
  clear og4_16
  have ox6_17 := own_keep ox6_16 b17 (Nat.le_refl _)
  clear ox6_16
  have og8_17 := own_keep og8_16 b17 (Nat.le_refl _)
  clear og8_16
  have ox16_17 := own_keep ox16_16 b17 (Nat.le_refl _)
  clear ox16_16
  have xp0_17 := XP0_16.out.below b17 XP0_16.out.lt
  clear XP0_16
  have xv5_17 := XV5_16.out.below b17 XV5_16.out.lt
  clear XV5_16
  have xv7_17 := XV7_16.out.below b17 XV7_16.out.lt
  clear XV7_16
  have xv9_17 := XV9_16.out.below b17 XV9_16.out.lt
  clear XV9_16
  have cp0_0 : w17.cell? ⟨w.heap.size, 0, none⟩ = some (.int .i64 l0) := by rw [xp0_17.cell]; rfl
  have cp0_1 : w17.cell? ⟨w.heap.size, 1, none⟩ = some (.slice A0 n0 c0) := by rw [xp0_17.cell]; rfl
  have lp0 := xp0_17.lt
  have XP0_17 := Lib.hid xp0_17
  clear xp0_17
  have cv5_0 : w17.cell? ⟨w4.heap.size, 0, none⟩ = some (.int .i64 (tsL l0 xs)) := by rw [xv5_17.cell]; rfl
  have cv5_1 : w17.cell? ⟨w4.heap.size, 1, none⟩ = some (.slice B4 ((tss l0 xs).length) d4) := by rw [xv5_17.cell]; rfl
  have lv5 := xv5_17.lt
  have XV5_17 := Lib.hid xv5_17
  clear xv5_17
  have cv7_0 : w17.cell? ⟨w6.heap.size, 0, none⟩ = some (.int .i64 l0) := by rw [xv7_17.cell]; rfl
  have cv7_1 : w17.cell? ⟨w6.heap.size, 1, none⟩ = some (.slice B6 n0 d6) := by rw [xv7_17.cell]; rfl
  have lv7 := xv7_17.lt
  have XV7_17 := Lib.hid xv7_17
  clear xv7_17
  have cv9_0 : w17.cell? ⟨w8.heap.size, 0, none⟩ = some (.int .i64 (tsL l0 xs)) := by rw [xv9_17.cell]; rfl
  have cv9_1 : w17.cell? ⟨w8.heap.size, 1, none⟩ = some (.slice B8 ((tss l0 xs).length) d8) := by rw [xv9_17.cell]; rfl
  have lv9 := xv9_17.lt
  have XV9_17 := Lib.hid xv9_17
  clear xv9_17
  clear ox16_17
  go_wp2_with fail
  generalize hq : w17.alloc (.cells #[.int .i64 (tsL l0 xs), .slice B17 ((tss l0 xs).length) d17] 60) = w18
  have b18 : Below w17.heap.size w17 w18 := by rw [← hq]; exact (Below.refl _ _).alloc (Nat.le_refl _) _
  have t18 := t17.trans (b18.mono t17.size)
  have xv18_18 : Bk w18 w17.heap.size 60 #[.int .i64 (tsL l0 xs), .slice B17 ((tss l0 xs).length) d17] := by rw [← hq]; exact Bk.new _ _ _
  clear hq
  clear lp0 cp0_0 cp0_1
  clear lv5 cv5_0 cv5_1
  clear lv7 cv7_0 cv7_1
  clear lv9 cv9_0 cv9_1
  have og4_18 := own_keep og4_17 b18 (Nat.le_refl _)
  clear og4_17
  have ox6_18 := own_keep ox6_17 b18 (Nat.le_refl _)
  clear ox6_17
  have og8_18 := own_keep og8_17 b18 (Nat.le_refl _)
  clear og8_17
  have og17_18 := own_keep og17_17 b18 (Nat.le_refl _)
  clear og17_17
  have xp0_18 := XP0_17.out.below b18 XP0_17.out.lt
  clear XP0_17
  have xv5_18 := XV5_17.out.below b18 XV5_17.out.lt
  clear XV5_17
  have xv7_18 := XV7_17.out.below b18 XV7_17.out.lt
  clear XV7_17
  have xv9_18 := XV9_17.out.below b18 XV9_17.out.lt
  clear XV9_17
  have cp0_0 : w18.cell? ⟨w.heap.size, 0, none⟩ = some (.int .i64 l0) := by rw [xp0_18.cell]; rfl
  have cp0_1 : w18.cell? ⟨w.heap.size, 1, none⟩ = some (.slice A0 n0 c0) := by rw [xp0_18.cell]; rfl
  have lp0 := xp0_18.lt
  have XP0_18 := Lib.hid xp0_18
  clear xp0_18
  have cv5_0 : w18.cell? ⟨w4.heap.size, 0, none⟩ = some (.int .i64 (tsL l0 xs)) := by rw [xv5_18.cell]; rfl
  have cv5_1 : w18.cell? ⟨w4.heap.size, 1, none⟩ = some (.slice B4 ((tss l0 xs).length) d4) := by rw [xv5_18.cell]; rfl
  have lv5 := xv5_18.lt
  have XV5_18 := Lib.hid xv5_18
  clear xv5_18
  have cv7_0 : w18.cell? ⟨w6.heap.size, 0, none⟩ = some (.int .i64 l0) := by rw [xv7_18.cell]; rfl
  have cv7_1 : w18.cell? ⟨w6.heap.size, 1, none⟩ = some (.slice B6 n0 d6) := by rw [xv7_18.cell]; rfl
  have lv7 := xv7_18.lt
  have XV7_18 := Lib.hid xv7_18
  clear xv7_18
  have cv9_0 : w18.cell? ⟨w8.heap.size, 0, none⟩ = some (.int .i64 (tsL l0 xs)) := by rw [xv9_18.cell]; rfl
  have cv9_1 : w18.cell? ⟨w8.heap.size, 1, none⟩ = some (.slice B8 ((tss l0 xs).length) d8) := by rw [xv9_18.cell]; rfl
  have lv9 := xv9_18.lt
  have XV9_18 := Lib.hid xv9_18
  clear xv9_18
  have cv18_0 : w18.cell? ⟨w17.heap.size, 0, none⟩ = some (.int .i64 (tsL l0 xs)) := by rw [xv18_18.cell]; rfl
  have cv18_1 : w18.cell? ⟨w17.heap.size, 1, none⟩ = some (.slice B17 ((tss l0 xs).length) d17) := by rw [xv18_18.cell]; rfl
  have lv18 := xv18_18.lt
  have XV18_18 := Lib.hid xv18_18
  clear xv18_18
  (try go_wp2_with fail)
  (with_reducible refine (eqSystem_k (tsL l0 xs) B17 ((tss l0 xs).length) d17 (tss l0 xs) (tsL l0 xs)  B4 ((tss l0 xs).length) d4 (tss l0 xs) _ (Rd.of_own og17_18) rfl (le_big (tss_len l0 xs)) (Rd.of_own og4_18) rfl (le_big (tss_len l0 xs))).mono ?_)
  rintro e w19 ⟨rfl, b19⟩
  have t19 := t18.trans (b19.mono t18.size)
  clear lp0 cp0_0 cp0_1
  clear lv5 cv5_0 cv5_1
  clear lv7 cv7_0 cv7_1
  clear lv9 cv9_0 cv9_1
  clear lv18 cv18_0 cv18_1
  have og4_19 := own_keep og4_18 b19 (Nat.le_refl _)
  clear og4_18
  have ox6_19 := own_keep ox6_18 b19 (Nat.le_refl _)
  clear ox6_18
  have og8_19 := own_keep og8_18 b19 (Nat.le_refl _)
  clear og8_18
  have og17_19 := own_keep og17_18 b19 (Nat.le_refl _)
  clear og17_18
  have xp0_19 := XP0_18.out.below b19 XP0_18.out.lt
  clear XP0_18
  have xv5_19 := XV5_18.out.below b19 XV5_18.out.lt
  clear XV5_18
  have xv7_19 := XV7_18.out.below b19 XV7_18.out.lt
  clear XV7_18
  have xv9_19 := XV9_18.out.below b19 XV9_18.out.lt
  clear XV9_18
  have xv18_19 := XV18_18.out.below b19 XV18_18.out.lt
  clear XV18_18
  have cp0_0 : w19.cell? ⟨w.heap.size, 0, none⟩ = some (.int .i64 l0) := by rw [xp0_19.cell]; rfl
  have cp0_1 : w19.cell? ⟨w.heap.size, 1, none⟩ = some (.slice A0 n0 c0) := by rw [xp0_19.cell]; rfl
  have lp0 := xp0_19.lt
  have XP0_19 := Lib.hid xp0_19
  clear xp0_19
  have cv5_0 : w19.cell? ⟨w4.heap.size, 0, none⟩ = some (.int .i64 (tsL l0 xs)) := by rw [xv5_19.cell]; rfl
  have cv5_1 : w19.cell? ⟨w4.heap.size, 1, none⟩ = some (.slice B4 ((tss l0 xs).length) d4) := by rw [xv5_19.cell]; rfl
  have lv5 := xv5_19.lt
  have XV5_19 := Lib.hid xv5_19
  clear xv5_19
  have cv7_0 : w19.cell? ⟨w6.heap.size, 0, none⟩ = some (.int .i64 l0) := by rw [xv7_19.cell]; rfl
  have cv7_1 : w19.cell? ⟨w6.heap.size, 1, none⟩ = some (.slice B6 n0 d6) := by rw [xv7_19.cell]; rfl
  have lv7 := xv7_19.lt
  have XV7_19 := Lib.hid xv7_19
  clear xv7_19
  have cv9_0 : w19.cell? ⟨w8.heap.size, 0, none⟩ = some (.int .i64 (tsL l0 xs)) := by rw [xv9_19.cell]; rfl
  have cv9_1 : w19.cell? ⟨w8.heap.size, 1, none⟩ = some (.slice B8 ((tss l0 xs).length) d8) := by rw [xv9_19.cell]; rfl
  have lv9 := xv9_19.lt
  have XV9_19 := Lib.hid xv9_19
  clear xv9_19
  have cv18_0 : w19.cell? ⟨w17.heap.size, 0, none⟩ = some (.int .i64 (tsL l0 xs)) := by rw [xv18_19.cell]; rfl
  have cv18_1 : w19.cell? ⟨w17.heap.size, 1, none⟩ = some (.slice B17 ((tss l0 xs).length) d17) := by rw [xv18_19.cell]; rfl
  have lv18 := xv18_19.lt
  have XV18_19 := Lib.hid xv18_19
  clear xv18_19
  go_wp2_with fail
  (with_reducible refine (heldSystem_k (tsL l0 xs) B8 ((tss l0 xs).length) d8 1 _ (Rd.of_own og8_19) (by omega) (by have := (tss_len l0 xs); omega)).mono ?_)
  rintro e w20 ⟨rfl, b20⟩
  have t20 := t19.trans (b20.mono t19.size)
  clear lp0 cp0_0 cp0_1
  clear lv5 cv5_0 cv5_1
  clear lv7 cv7_0 cv7_1
  clear lv9 cv9_0 cv9_1
  clear lv18 cv18_0 cv18_1
  have og4_20 := own_keep og4_19 b20 (Nat.le_refl _)
  clear og4_19
  have ox6_20 := own_keep ox6_19 b20 (Nat.le_refl _)
  clear ox6_19
  have og8_20 := own_keep og8_19 b20 (Nat.le_refl _)
  clear og8_19
  have og17_20 := own_keep og17_19 b20 (Nat.le_refl _)
  clear og17_19
  have xp0_20 := XP0_19.out.below b20 XP0_19.out.lt
  clear XP0_19
  have xv5_20 := XV5_19.out.below b20 XV5_19.out.lt
  clear XV5_19
  have xv7_20 := XV7_19.out.below b20 XV7_19.out.lt
  clear XV7_19
  have xv9_20 := XV9_19.out.below b20 XV9_19.out.lt
  clear XV9_19
  have xv18_20 := XV18_19.out.below b20 XV18_19.out.lt
  clear XV18_19
  have cp0_0 : w20.cell? ⟨w.heap.size, 0, none⟩ = some (.int .i64 l0) := by rw [xp0_20.cell]; rfl
  have cp0_1 : w20.cell? ⟨w.heap.size, 1, none⟩ = some (.slice A0 n0 c0) := by rw [xp0_20.cell]; rfl
  have lp0 := xp0_20.lt
  have XP0_20 := Lib.hid xp0_20
  clear xp0_20
  have cv5_0 : w20.cell? ⟨w4.heap.size, 0, none⟩ = some (.int .i64 (tsL l0 xs)) := by rw [xv5_20.cell]; rfl
  have cv5_1 : w20.cell? ⟨w4.heap.size, 1, none⟩ = some (.slice B4 ((tss l0 xs).length) d4) := by rw [xv5_20.cell]; rfl
  have lv5 := xv5_20.lt
  have XV5_20 := Lib.hid xv5_20
  clear xv5_20
  have cv7_0 : w20.cell? ⟨w6.heap.size, 0, none⟩ = some (.int .i64 l0) := by rw [xv7_20.cell]; rfl
  have cv7_1 : w20.cell? ⟨w6.heap.size, 1, none⟩ = some (.slice B6 n0 d6) := by rw [xv7_20.cell]; rfl
  have lv7 := xv7_20.lt
  have XV7_20 := Lib.hid xv7_20
  clear xv7_20
  have cv9_0 : w20.cell? ⟨w8.heap.size, 0, none⟩ = some (.int .i64 (tsL l0 xs)) := by rw [xv9_20.cell]; rfl
  have cv9_1 : w20.cell? ⟨w8.heap.size, 1, none⟩ = some (.slice B8 ((tss l0 xs).length) d8) := by rw [xv9_20.cell]; rfl
  have lv9 := xv9_20.lt
  have XV9_20 := Lib.hid xv9_20
  clear xv9_20
  have cv18_0 : w20.cell? ⟨w17.heap.size, 0, none⟩ = some (.int .i64 (tsL l0 xs)) := by rw [xv18_20.cell]; rfl
  have cv18_1 : w20.cell? ⟨w17.heap.size, 1, none⟩ = some (.slice B17 ((tss l0 xs).length) d17) := by rw [xv18_20.cell]; rfl
  have lv18 := xv18_20.lt
  have XV18_20 := Lib.hid xv18_20
  clear xv18_20
  go_wp2_with fail
  go_ret
  exact ⟨rfl, t20⟩
  
set_option maxRecDepth 100000 in
theorem lifted_TableSystem (os : Os) (started : os.Started) (H : Type) (enc : TypeId × Value → H) :
    ReturnsInHanded {} Try.checked os 10 .any (Rows.fnExactTableSystemSpec.pre6 enc Try.prog Try.f10 Rows.fnExactTableSystemRow.domain false) (Rows.fnExactTableSystemSpec.post enc Try.prog Try.f10 false true false false) := by
  refine returnsInHanded_of_change (C := Try.checked) own_knob started (by kernel_rfl) Try.func10
    (ChangeSpec.witness6 (enc := enc) (C := Try.checked) false ⟨#[], #[.agg #[.int .i64 0, .slice none 0 0]], []⟩ 8 (by kernel_rfl) (by kernel_rfl) (by kernel_rfl) (by kernel_rfl)) ?_
  intro W base args ds gs before hval0 hW _ _
  have hval : ∀ (j : Nat) t v, Try.f10.params[j]? = some t → args[j]? = some v → Value.okWide Try.prog W .any base t v := hval0
  have hW' := hW
  obtain ⟨p, q, hA0, hV, rfl, hfz, hnd⟩ := hW
  have hA : DataW.TrodAll enc Try.prog W 0 (fun _ => true) true Try.f10.params.toList args.toList ds p := hA0
  rw [Try.params10] at hA hval
  obtain ⟨v0, vs0, d0, ds0, p0, q0, hargs, rfl, rfl, h0, r0⟩ := trodAll_cons hA
  obtain ⟨rfl, rfl, rfl⟩ := trodAll_nil r0
  obtain rfl : args = #[v0] := by cases args; simp_all
  obtain ⟨rfl, rfl⟩ := trodVars_none hV
  have k0 := h0
  have lt0 : ∀ x ∈ p0, x.block < W.heap.size := by obtain ⟨m, hm⟩ := k0; exact DataW.trod_lt m _ _ _ hm
  obtain ⟨z0, R0⟩ := open_table (hval 0 32 v0 rfl rfl) h0
  clear hA0 hval0
  refine (law_TableSystem W v0 z0 R0).mono fun e W' ⟨he, bel⟩ => ?_
  subst he
  exact ⟨_, rfl, _, _, _, [], _, [], hW', trodAll_mk1 (shut_bool Try.underlying4 _), (trodAll_cons_mk (Below.trod laid_out (by kernel_rfl) (of_decide_eq_true (by kernel_rfl)) k0 bel lt0) trodAll_mk0), rfl, bel.frame _, fun h => by cases h⟩

theorem TableSystem_holds : Rows.FnExactTableSystemSaid :=
  OpenClaim.holds_of_wide 10 Try.f10 rfl rfl rfl rfl rfl rfl rfl ⟨rfl, rfl, rfl, rfl, rfl⟩ rfl rfl rfl rfl rfl (by kernel_rfl) Try.func10 (by kernel_rfl)
    (of_decide_eq_true (by kernel_rfl)) (by unfold Func.isWrapper; first | (rw [if_pos (by decide +kernel)]; kernel_rfl) | (rw [if_neg (by decide +kernel)]; exact ⟨rfl, rfl⟩))
    (fun os started H enc _ => lifted_TableSystem os started H enc)

end Go.Proofs.Ytpbaccpojihpmaa
