/- For every input the law FnExactApplyLink returns true and leaves its arguments as they were. No condition. -/
import Derived.Test.YtpbaccpojihpmaaApLink
import Derived.Test.YtpbaccpojihpmaaLinkTo
import Derived.Test.YtpbaccpojihpmaaRuleTo
import Derived.Test.YtpbaccpojihpmaaSystem
import Derived.Test.YtpbaccpojihpmaaOpenArgs
import Derived.Test.YtpbaccpojihpmaaLawBase
namespace Go.Proofs.Ytpbaccpojihpmaa
open Go.ChangeShapes Go.WideShapes Go.ChangeAt Go.RowKit Go.Shelf

set_option maxRecDepth 100000 in
set_option maxHeartbeats 1000000 in
theorem law_ApplyLink (w : World) (v0 : Value) (z0 : Int × Option Addr × Nat × Nat × List RuleT) (R0 : OpenSystem w v0 z0) (s : ByteArray) (hw1 : s.size ≤ maxLen) (v2 : Value) (z2 : LinkT) (R2 : OpenLink v2 z2) :
    Calls Try.prog 7 #[v0, .string s, v2] w (Kept w (.bool true)) := by
  obtain ⟨l0, A0, n0, c0, rs⟩ := z0
  obtain ⟨rfl, hr0, hn0, hm0, hz0⟩ := R0
  dsimp only at hr0 hn0 hm0 hz0
  obtain ⟨x0, x1, x2⟩ := z2
  obtain rfl := R2
  unfold maxLen at hw1
  by_cases hb1 : s.size ≤ 1048576
  rotate_left
  · skip
    go_enter Try.func7, Try.ntmps7
    go_wp2_with fail
    go_ret
    exact ⟨rfl, (by repeat (first | exact Below.refl _ _ | (refine Below.alloc ?_ (by simp <;> omega) _)))⟩
  have Hn0 := Lib.hid hn0
  clear hn0
  go_enter Try.func7, Try.ntmps7
  go_wp2_with fail
  generalize hq : ((w.alloc (.cells #[.int .i64 l0, .slice A0 n0 c0] 52)).alloc (.cells #[.int .i64 x0, .int .i64 x1, .bool x2] 54)) = w1
  have b1 : Below w.heap.size w w1 := by rw [← hq]; exact (((Below.refl _ _).alloc (by simp <;> omega) _).alloc (by simp <;> omega) _)
  have t1 := b1
  have xp0_1 : Bk w1 (w.heap.size) 52 #[.int .i64 l0, .slice A0 n0 c0] := by rw [← hq]; exact (((Bk.new w 52 #[.int .i64 l0, .slice A0 n0 c0]).alloc _)).cast (by simp)
  have xp1_1 : Bk w1 (w.heap.size + 1) 54 #[.int .i64 x0, .int .i64 x1, .bool x2] := by rw [← hq]; exact ((Bk.new (w.alloc (.cells #[.int .i64 l0, .slice A0 n0 c0] 52)) 54 #[.int .i64 x0, .int .i64 x1, .bool x2])).cast (by simp)
  clear hq
  have cp0_0 : w1.cell? ⟨w.heap.size, 0, none⟩ = some (.int .i64 l0) := by rw [xp0_1.cell]; rfl
  have cp0_1 : w1.cell? ⟨w.heap.size, 1, none⟩ = some (.slice A0 n0 c0) := by rw [xp0_1.cell]; rfl
  have lp0 := xp0_1.lt
  have XP0_1 := Lib.hid xp0_1
  clear xp0_1
  have cp1_0 : w1.cell? ⟨w.heap.size + 1, 0, none⟩ = some (.int .i64 x0) := by rw [xp1_1.cell]; rfl
  have cp1_1 : w1.cell? ⟨w.heap.size + 1, 1, none⟩ = some (.int .i64 x1) := by rw [xp1_1.cell]; rfl
  have cp1_2 : w1.cell? ⟨w.heap.size + 1, 2, none⟩ = some (.bool x2) := by rw [xp1_1.cell]; rfl
  have lp1 := xp1_1.lt
  have XP1_1 := Lib.hid xp1_1
  clear xp1_1
  (try go_wp2_with fail)
  (with_reducible refine (szSystem_any l0 A0 n0 c0 rs 1048576 _ (hr0.keep t1) Hn0.out hm0 (by omega) (by omega) hz0).mono ?_)
  rintro e w2 ⟨rfl, b2⟩
  have t2 := t1.trans (b2.mono t1.size)
  clear lp0 cp0_0 cp0_1
  clear lp1 cp1_0 cp1_1 cp1_2
  have xp0_2 := XP0_1.out.below b2 XP0_1.out.lt
  clear XP0_1
  have xp1_2 := XP1_1.out.below b2 XP1_1.out.lt
  clear XP1_1
  have cp0_0 : w2.cell? ⟨w.heap.size, 0, none⟩ = some (.int .i64 l0) := by rw [xp0_2.cell]; rfl
  have cp0_1 : w2.cell? ⟨w.heap.size, 1, none⟩ = some (.slice A0 n0 c0) := by rw [xp0_2.cell]; rfl
  have lp0 := xp0_2.lt
  have XP0_2 := Lib.hid xp0_2
  clear xp0_2
  have cp1_0 : w2.cell? ⟨w.heap.size + 1, 0, none⟩ = some (.int .i64 x0) := by rw [xp1_2.cell]; rfl
  have cp1_1 : w2.cell? ⟨w.heap.size + 1, 1, none⟩ = some (.int .i64 x1) := by rw [xp1_2.cell]; rfl
  have cp1_2 : w2.cell? ⟨w.heap.size + 1, 2, none⟩ = some (.bool x2) := by rw [xp1_2.cell]; rfl
  have lp1 := xp1_2.lt
  have XP1_2 := Lib.hid xp1_2
  clear xp1_2
  by_cases ht0 : (1048576 : Int) - (totRule rs : Nat) < 0
  · rw [szLeft, if_pos ht0]
    go_wp2_with fail
    go_ret
    exact ⟨rfl, t2⟩
  rw [szLeft, if_neg ht0]
  have hs0 : totRule rs ≤ 1048576 := by omega
  have hb0 : n0 ≤ 1048576 := by have := tot_len_rules rs; have := Hn0.out; omega
  have hy0 := tot_all_rules rs hs0
  have hl0 : (0 : Int) ≤ 1048576 - (totRule rs : Nat) := by omega
  clear ht0
  go_wp2_with fail
  have eS : ∀ w', Below w2.drew.heap.size w2.drew w' → w'.cell? ⟨w.heap.size, 0, none⟩ = some (.int .i64 l0) ∧ w'.cell? ⟨w.heap.size, 1, none⟩ = some (.slice A0 n0 c0) ∧ w'.cell? ⟨w.heap.size + 1, 0, none⟩ = some (.int .i64 x0) ∧ w'.cell? ⟨w.heap.size + 1, 1, none⟩ = some (.int .i64 x1) ∧ w'.cell? ⟨w.heap.size + 1, 2, none⟩ = some (.bool x2) := fun w' hb => ⟨(hb.cell (p := ⟨w.heap.size, 0, none⟩) XP0_2.out.lt).trans cp0_0, (hb.cell (p := ⟨w.heap.size, 1, none⟩) XP0_2.out.lt).trans cp0_1, (hb.cell (p := ⟨w.heap.size + 1, 0, none⟩) XP1_2.out.lt).trans cp1_0, (hb.cell (p := ⟨w.heap.size + 1, 1, none⟩) XP1_2.out.lt).trans cp1_1, (hb.cell (p := ⟨w.heap.size + 1, 2, none⟩) XP1_2.out.lt).trans cp1_2⟩
  have zS := eS _ (Below.refl _ _)
  have ES := Lib.hid eS
  clear eS
  have ZS := Lib.hid zS
  clear zS
  go_region_held3 (fun w' => w'.cell? ⟨w.heap.size, 0, none⟩ = some (.int .i64 l0) ∧ w'.cell? ⟨w.heap.size, 1, none⟩ = some (.slice A0 n0 c0) ∧ w'.cell? ⟨w.heap.size + 1, 0, none⟩ = some (.int .i64 x0) ∧ w'.cell? ⟨w.heap.size + 1, 1, none⟩ = some (.int .i64 x1) ∧ w'.cell? ⟨w.heap.size + 1, 2, none⟩ = some (.bool x2)) (first | exact ZS.out | assumption) ((first | ((with_reducible refine (toSystem_any l0 A0 n0 c0 rs _ (Rd.drew (hr0.keep t2)) Hn0.out hb0 hy0).mono ?_); rintro e y1 ⟨C2_1, e2_1, rfl, oy1, hX1⟩; have hU1 := hX1; have hS1 := ES.out _ hU1) | ((with_reducible refine (toLink_any x0 x1 x2 _).mono ?_); rintro e y2 ⟨rfl, hX2⟩; have hU2 := hU1.trans (hX2.mono hU1.size); have hS2 := ES.out _ hU2; have oy1_2 := own_keep oy1 hX2 (Nat.le_refl _)) | ((with_reducible refine (specApplyLink_any l0 C2_1 n0 e2_1 rs s x0 x1 x2 _ (Rd.of_own oy1_2) Hn0.out hb0 hy0 hb1).mono ?_); rintro e w3 ⟨rfl, hX3⟩; have hU3 := hU2.trans (hX3.mono hU2.size); have hS3 := ES.out _ hU3; have oy1_3 := own_keep oy1_2 hX3 (Nat.le_refl _))))
  have b3 : Below w2.heap.size w2 w3 := ((Below.refl _ _).drew).trans hU3
  have t3 := t2.trans (b3.mono t2.size)
  clear hU1 hX1 hS1 hU2 hX2 hS2 hU3 hX3 hS3 ES ZS oy1 oy1_2 oy1_3
  clear lp0 cp0_0 cp0_1
  clear lp1 cp1_0 cp1_1 cp1_2
  have xp0_3 := XP0_2.out.below b3 XP0_2.out.lt
  clear XP0_2
  have xp1_3 := XP1_2.out.below b3 XP1_2.out.lt
  clear XP1_2
  have cp0_0 : w3.cell? ⟨w.heap.size, 0, none⟩ = some (.int .i64 l0) := by rw [xp0_3.cell]; rfl
  have cp0_1 : w3.cell? ⟨w.heap.size, 1, none⟩ = some (.slice A0 n0 c0) := by rw [xp0_3.cell]; rfl
  have lp0 := xp0_3.lt
  have XP0_3 := Lib.hid xp0_3
  clear xp0_3
  have cp1_0 : w3.cell? ⟨w.heap.size + 1, 0, none⟩ = some (.int .i64 x0) := by rw [xp1_3.cell]; rfl
  have cp1_1 : w3.cell? ⟨w.heap.size + 1, 1, none⟩ = some (.int .i64 x1) := by rw [xp1_3.cell]; rfl
  have cp1_2 : w3.cell? ⟨w.heap.size + 1, 2, none⟩ = some (.bool x2) := by rw [xp1_3.cell]; rfl
  have lp1 := xp1_3.lt
  have XP1_3 := Lib.hid xp1_3
  clear xp1_3
  go_wp2_with fail
  (with_reducible refine (toSystem_any l0 A0 n0 c0 rs _ (hr0.keep t3) Hn0.out hb0 hy0).mono ?_)
  rintro e w4 ⟨B4, d4, rfl, ox4_4, b4⟩
  have t4 := t3.trans (b4.mono t3.size)
  clear lp0 cp0_0 cp0_1
  clear lp1 cp1_0 cp1_1 cp1_2
  have xp0_4 := XP0_3.out.below b4 XP0_3.out.lt
  clear XP0_3
  have xp1_4 := XP1_3.out.below b4 XP1_3.out.lt
  clear XP1_3
  have cp0_0 : w4.cell? ⟨w.heap.size, 0, none⟩ = some (.int .i64 l0) := by rw [xp0_4.cell]; rfl
  have cp0_1 : w4.cell? ⟨w.heap.size, 1, none⟩ = some (.slice A0 n0 c0) := by rw [xp0_4.cell]; rfl
  have lp0 := xp0_4.lt
  have XP0_4 := Lib.hid xp0_4
  clear xp0_4
  have cp1_0 : w4.cell? ⟨w.heap.size + 1, 0, none⟩ = some (.int .i64 x0) := by rw [xp1_4.cell]; rfl
  have cp1_1 : w4.cell? ⟨w.heap.size + 1, 1, none⟩ = some (.int .i64 x1) := by rw [xp1_4.cell]; rfl
  have cp1_2 : w4.cell? ⟨w.heap.size + 1, 2, none⟩ = some (.bool x2) := by rw [xp1_4.cell]; rfl
  have lp1 := xp1_4.lt
  have XP1_4 := Lib.hid xp1_4
  clear xp1_4
  go_wp2_with fail
  generalize hq : w4.alloc (.cells #[.int .i64 l0, .slice B4 n0 d4] 60) = w5
  have b5 : Below w4.heap.size w4 w5 := by rw [← hq]; exact (Below.refl _ _).alloc (Nat.le_refl _) _
  have t5 := t4.trans (b5.mono t4.size)
  have xv5_5 : Bk w5 w4.heap.size 60 #[.int .i64 l0, .slice B4 n0 d4] := by rw [← hq]; exact Bk.new _ _ _
  clear hq
  clear lp0 cp0_0 cp0_1
  clear lp1 cp1_0 cp1_1 cp1_2
  have ox4_5 := own_keep ox4_4 b5 (Nat.le_refl _)
  clear ox4_4
  have xp0_5 := XP0_4.out.below b5 XP0_4.out.lt
  clear XP0_4
  have xp1_5 := XP1_4.out.below b5 XP1_4.out.lt
  clear XP1_4
  have cp0_0 : w5.cell? ⟨w.heap.size, 0, none⟩ = some (.int .i64 l0) := by rw [xp0_5.cell]; rfl
  have cp0_1 : w5.cell? ⟨w.heap.size, 1, none⟩ = some (.slice A0 n0 c0) := by rw [xp0_5.cell]; rfl
  have lp0 := xp0_5.lt
  have XP0_5 := Lib.hid xp0_5
  clear xp0_5
  have cp1_0 : w5.cell? ⟨w.heap.size + 1, 0, none⟩ = some (.int .i64 x0) := by rw [xp1_5.cell]; rfl
  have cp1_1 : w5.cell? ⟨w.heap.size + 1, 1, none⟩ = some (.int .i64 x1) := by rw [xp1_5.cell]; rfl
  have cp1_2 : w5.cell? ⟨w.heap.size + 1, 2, none⟩ = some (.bool x2) := by rw [xp1_5.cell]; rfl
  have lp1 := xp1_5.lt
  have XP1_5 := Lib.hid xp1_5
  clear xp1_5
  have cv5_0 : w5.cell? ⟨w4.heap.size, 0, none⟩ = some (.int .i64 l0) := by rw [xv5_5.cell]; rfl
  have cv5_1 : w5.cell? ⟨w4.heap.size, 1, none⟩ = some (.slice B4 n0 d4) := by rw [xv5_5.cell]; rfl
  have lv5 := xv5_5.lt
  have XV5_5 := Lib.hid xv5_5
  clear xv5_5
  (try go_wp2_with fail)
  have eS : ∀ w', Below w5.drew.heap.size w5.drew w' → w'.cell? ⟨w.heap.size, 0, none⟩ = some (.int .i64 l0) ∧ w'.cell? ⟨w.heap.size, 1, none⟩ = some (.slice A0 n0 c0) ∧ w'.cell? ⟨w.heap.size + 1, 0, none⟩ = some (.int .i64 x0) ∧ w'.cell? ⟨w.heap.size + 1, 1, none⟩ = some (.int .i64 x1) ∧ w'.cell? ⟨w.heap.size + 1, 2, none⟩ = some (.bool x2) ∧ w'.cell? ⟨w4.heap.size, 0, none⟩ = some (.int .i64 l0) ∧ w'.cell? ⟨w4.heap.size, 1, none⟩ = some (.slice B4 n0 d4) := fun w' hb => ⟨(hb.cell (p := ⟨w.heap.size, 0, none⟩) XP0_5.out.lt).trans cp0_0, (hb.cell (p := ⟨w.heap.size, 1, none⟩) XP0_5.out.lt).trans cp0_1, (hb.cell (p := ⟨w.heap.size + 1, 0, none⟩) XP1_5.out.lt).trans cp1_0, (hb.cell (p := ⟨w.heap.size + 1, 1, none⟩) XP1_5.out.lt).trans cp1_1, (hb.cell (p := ⟨w.heap.size + 1, 2, none⟩) XP1_5.out.lt).trans cp1_2, (hb.cell (p := ⟨w4.heap.size, 0, none⟩) XV5_5.out.lt).trans cv5_0, (hb.cell (p := ⟨w4.heap.size, 1, none⟩) XV5_5.out.lt).trans cv5_1⟩
  have zS := eS _ (Below.refl _ _)
  have ES := Lib.hid eS
  clear eS
  have ZS := Lib.hid zS
  clear zS
  go_region_held3 (fun w' => w'.cell? ⟨w.heap.size, 0, none⟩ = some (.int .i64 l0) ∧ w'.cell? ⟨w.heap.size, 1, none⟩ = some (.slice A0 n0 c0) ∧ w'.cell? ⟨w.heap.size + 1, 0, none⟩ = some (.int .i64 x0) ∧ w'.cell? ⟨w.heap.size + 1, 1, none⟩ = some (.int .i64 x1) ∧ w'.cell? ⟨w.heap.size + 1, 2, none⟩ = some (.bool x2) ∧ w'.cell? ⟨w4.heap.size, 0, none⟩ = some (.int .i64 l0) ∧ w'.cell? ⟨w4.heap.size, 1, none⟩ = some (.slice B4 n0 d4)) (first | exact ZS.out | assumption) ((first | ((with_reducible refine (toLink_any x0 x1 x2 _).mono ?_); rintro e y1 ⟨rfl, hX1⟩; have hU1 := hX1; have hS1 := ES.out _ hU1) | ((with_reducible refine (implApplyLink_any l0 B4 n0 d4 rs s x0 x1 x2 _ (Rd.of_own (own_keep (own_drew ox4_5) hU1 (Nat.le_refl _))) Hn0.out hb0 hy0 hb1).mono ?_); rintro e w6 ⟨rfl, hX2⟩; have hU2 := hU1.trans (hX2.mono hU1.size); have hS2 := ES.out _ hU2)))
  have b6 : Below w5.heap.size w5 w6 := ((Below.refl _ _).drew).trans hU2
  have t6 := t5.trans (b6.mono t5.size)
  clear hU1 hX1 hS1 hU2 hX2 hS2 ES ZS
  clear lp0 cp0_0 cp0_1
  clear lp1 cp1_0 cp1_1 cp1_2
  clear lv5 cv5_0 cv5_1
  have ox4_6 := own_keep ox4_5 b6 (Nat.le_refl _)
  clear ox4_5
  have xp0_6 := XP0_5.out.below b6 XP0_5.out.lt
  clear XP0_5
  have xp1_6 := XP1_5.out.below b6 XP1_5.out.lt
  clear XP1_5
  have xv5_6 := XV5_5.out.below b6 XV5_5.out.lt
  clear XV5_5
  have cp0_0 : w6.cell? ⟨w.heap.size, 0, none⟩ = some (.int .i64 l0) := by rw [xp0_6.cell]; rfl
  have cp0_1 : w6.cell? ⟨w.heap.size, 1, none⟩ = some (.slice A0 n0 c0) := by rw [xp0_6.cell]; rfl
  have lp0 := xp0_6.lt
  have XP0_6 := Lib.hid xp0_6
  clear xp0_6
  have cp1_0 : w6.cell? ⟨w.heap.size + 1, 0, none⟩ = some (.int .i64 x0) := by rw [xp1_6.cell]; rfl
  have cp1_1 : w6.cell? ⟨w.heap.size + 1, 1, none⟩ = some (.int .i64 x1) := by rw [xp1_6.cell]; rfl
  have cp1_2 : w6.cell? ⟨w.heap.size + 1, 2, none⟩ = some (.bool x2) := by rw [xp1_6.cell]; rfl
  have lp1 := xp1_6.lt
  have XP1_6 := Lib.hid xp1_6
  clear xp1_6
  have cv5_0 : w6.cell? ⟨w4.heap.size, 0, none⟩ = some (.int .i64 l0) := by rw [xv5_6.cell]; rfl
  have cv5_1 : w6.cell? ⟨w4.heap.size, 1, none⟩ = some (.slice B4 n0 d4) := by rw [xv5_6.cell]; rfl
  have lv5 := xv5_6.lt
  have XV5_6 := Lib.hid xv5_6
  clear xv5_6
  go_wp2_with fail
  have eS : ∀ w', Below w6.drew.heap.size w6.drew w' → w'.cell? ⟨w.heap.size, 0, none⟩ = some (.int .i64 l0) ∧ w'.cell? ⟨w.heap.size, 1, none⟩ = some (.slice A0 n0 c0) ∧ w'.cell? ⟨w.heap.size + 1, 0, none⟩ = some (.int .i64 x0) ∧ w'.cell? ⟨w.heap.size + 1, 1, none⟩ = some (.int .i64 x1) ∧ w'.cell? ⟨w.heap.size + 1, 2, none⟩ = some (.bool x2) ∧ w'.cell? ⟨w4.heap.size, 0, none⟩ = some (.int .i64 l0) ∧ w'.cell? ⟨w4.heap.size, 1, none⟩ = some (.slice B4 n0 d4) := fun w' hb => ⟨(hb.cell (p := ⟨w.heap.size, 0, none⟩) XP0_6.out.lt).trans cp0_0, (hb.cell (p := ⟨w.heap.size, 1, none⟩) XP0_6.out.lt).trans cp0_1, (hb.cell (p := ⟨w.heap.size + 1, 0, none⟩) XP1_6.out.lt).trans cp1_0, (hb.cell (p := ⟨w.heap.size + 1, 1, none⟩) XP1_6.out.lt).trans cp1_1, (hb.cell (p := ⟨w.heap.size + 1, 2, none⟩) XP1_6.out.lt).trans cp1_2, (hb.cell (p := ⟨w4.heap.size, 0, none⟩) XV5_6.out.lt).trans cv5_0, (hb.cell (p := ⟨w4.heap.size, 1, none⟩) XV5_6.out.lt).trans cv5_1⟩
  have zS := eS _ (Below.refl _ _)
  have ES := Lib.hid eS
  clear eS
  have ZS := Lib.hid zS
  clear zS
  go_region_held3 (fun w' => w'.cell? ⟨w.heap.size, 0, none⟩ = some (.int .i64 l0) ∧ w'.cell? ⟨w.heap.size, 1, none⟩ = some (.slice A0 n0 c0) ∧ w'.cell? ⟨w.heap.size + 1, 0, none⟩ = some (.int .i64 x0) ∧ w'.cell? ⟨w.heap.size + 1, 1, none⟩ = some (.int .i64 x1) ∧ w'.cell? ⟨w.heap.size + 1, 2, none⟩ = some (.bool x2) ∧ w'.cell? ⟨w4.heap.size, 0, none⟩ = some (.int .i64 l0) ∧ w'.cell? ⟨w4.heap.size, 1, none⟩ = some (.slice B4 n0 d4)) (first | exact ZS.out | assumption) ((first | ((with_reducible refine (toSystem_any l0 A0 n0 c0 rs _ (Rd.drew (hr0.keep t6)) Hn0.out hb0 hy0).mono ?_); rintro e y6 ⟨B7, d7, rfl, oy6, hU1⟩; have hS1 := ES.out _ hU1; have oz6 := own_keep (w := w6.drew) ox4_6 hU1 (Nat.le_refl _)) | ((with_reducible refine (eqSystem_k l0 B4 n0 d4 rs l0 B7 n0 d7 rs _ (Rd.of_own oz6) Hn0.out (le_big hb0) (Rd.of_own oy6) Hn0.out (le_big hb0)).mono ?_); rintro e w7 ⟨rfl, hU2⟩; have hU3 := hU1.trans (hU2.mono hU1.size); have hS2 := ES.out _ hU3)))
  have b7 : Below w6.heap.size w6 w7 := ((Below.refl _ _).drew).trans hU3
  have t7 := t6.trans (b7.mono t6.size)
  clear hU1 hU2 hU3 hS1 hS2 ES ZS oy6 oz6
  clear lp0 cp0_0 cp0_1
  clear lp1 cp1_0 cp1_1 cp1_2
  clear lv5 cv5_0 cv5_1
  have ox4_7 := own_keep ox4_6 b7 (Nat.le_refl _)
  clear ox4_6
  have xp0_7 := XP0_6.out.below b7 XP0_6.out.lt
  clear XP0_6
  have xp1_7 := XP1_6.out.below b7 XP1_6.out.lt
  clear XP1_6
  have xv5_7 := XV5_6.out.below b7 XV5_6.out.lt
  clear XV5_6
  have cp0_0 : w7.cell? ⟨w.heap.size, 0, none⟩ = some (.int .i64 l0) := by rw [xp0_7.cell]; rfl
  have cp0_1 : w7.cell? ⟨w.heap.size, 1, none⟩ = some (.slice A0 n0 c0) := by rw [xp0_7.cell]; rfl
  have lp0 := xp0_7.lt
  have XP0_7 := Lib.hid xp0_7
  clear xp0_7
  have cp1_0 : w7.cell? ⟨w.heap.size + 1, 0, none⟩ = some (.int .i64 x0) := by rw [xp1_7.cell]; rfl
  have cp1_1 : w7.cell? ⟨w.heap.size + 1, 1, none⟩ = some (.int .i64 x1) := by rw [xp1_7.cell]; rfl
  have cp1_2 : w7.cell? ⟨w.heap.size + 1, 2, none⟩ = some (.bool x2) := by rw [xp1_7.cell]; rfl
  have lp1 := xp1_7.lt
  have XP1_7 := Lib.hid xp1_7
  clear xp1_7
  have cv5_0 : w7.cell? ⟨w4.heap.size, 0, none⟩ = some (.int .i64 l0) := by rw [xv5_7.cell]; rfl
  have cv5_1 : w7.cell? ⟨w4.heap.size, 1, none⟩ = some (.slice B4 n0 d4) := by rw [xv5_7.cell]; rfl
  have lv5 := xv5_7.lt
  have XV5_7 := Lib.hid xv5_7
  clear xv5_7
  go_wp2_with fail
  go_ret
  exact ⟨rfl, t7⟩
  
set_option maxRecDepth 100000 in
theorem lifted_ApplyLink (os : Os) (started : os.Started) (H : Type) (enc : TypeId × Value → H) :
    ReturnsInHanded {} Try.checked os 7 .any (Rows.fnExactApplyLinkSpec.pre6 enc Try.prog Try.f7 Rows.fnExactApplyLinkRow.domain false) (Rows.fnExactApplyLinkSpec.post enc Try.prog Try.f7 false true false false) := by
  refine returnsInHanded_of_change (C := Try.checked) own_knob started (by kernel_rfl) Try.func7
    (ChangeSpec.witness6 (enc := enc) (C := Try.checked) false ⟨#[], #[.agg #[.int .i64 0, .slice none 0 0], .string ⟨#[]⟩, .agg #[.int .i64 0, .int .i64 0, .bool false]], []⟩ 8 (by kernel_rfl) (by kernel_rfl) (by kernel_rfl) (by kernel_rfl)) ?_
  intro W base args ds gs before hval0 hW _ _
  have hval : ∀ (j : Nat) t v, Try.f7.params[j]? = some t → args[j]? = some v → Value.okWide Try.prog W .any base t v := hval0
  have hW' := hW
  obtain ⟨p, q, hA0, hV, rfl, hfz, hnd⟩ := hW
  have hA : DataW.TrodAll enc Try.prog W 0 (fun _ => true) true Try.f7.params.toList args.toList ds p := hA0
  rw [Try.params7] at hA hval
  obtain ⟨v0, vs0, d0, ds0, p0, q0, hargs, rfl, rfl, h0, r0⟩ := trodAll_cons hA
  obtain ⟨v1, vs1, d1, ds1, p1, q1, rfl, rfl, rfl, h1, r1⟩ := trodAll_cons r0
  obtain ⟨v2, vs2, d2, ds2, p2, q2, rfl, rfl, rfl, h2, r2⟩ := trodAll_cons r1
  obtain ⟨rfl, rfl, rfl⟩ := trodAll_nil r2
  obtain rfl : args = #[v0, v1, v2] := by cases args; simp_all
  obtain ⟨rfl, rfl⟩ := trodVars_none hV
  have k0 := h0
  have lt0 : ∀ x ∈ p0, x.block < W.heap.size := by obtain ⟨m, hm⟩ := k0; exact DataW.trod_lt m _ _ _ hm
  have k1 := h1
  have lt1 : ∀ x ∈ p1, x.block < W.heap.size := by obtain ⟨m, hm⟩ := k1; exact DataW.trod_lt m _ _ _ hm
  have k2 := h2
  have lt2 : ∀ x ∈ p2, x.block < W.heap.size := by obtain ⟨m, hm⟩ := k2; exact DataW.trod_lt m _ _ _ hm
  obtain ⟨z0, R0⟩ := open_system (hval 0 52 v0 rfl rfl) h0
  obtain ⟨a1, rfl, rfl, rfl, wf1⟩ := Go.ChangeMaps.open_string Try.underlying9 (hval 1 9 v1 rfl rfl) h1
  obtain ⟨z2, R2⟩ := open_link (hval 2 54 v2 rfl rfl) h2
  clear hA0 hval0
  refine (law_ApplyLink W v0 z0 R0 a1 wf1 v2 z2 R2).mono fun e W' ⟨he, bel⟩ => ?_
  subst he
  exact ⟨_, rfl, _, _, _, [], _, [], hW', trodAll_mk1 (shut_bool Try.underlying4 _), (trodAll_cons_mk (Below.trod laid_out (by kernel_rfl) (of_decide_eq_true (by kernel_rfl)) k0 bel lt0) (trodAll_cons_mk (Below.trod laid_out (by kernel_rfl) (of_decide_eq_true (by kernel_rfl)) k1 bel lt1) (trodAll_cons_mk (Below.trod laid_out (by kernel_rfl) (of_decide_eq_true (by kernel_rfl)) k2 bel lt2) trodAll_mk0))), rfl, bel.frame _, fun h => by cases h⟩

theorem ApplyLink_holds : Rows.FnExactApplyLinkSaid :=
  OpenClaim.holds_of_wide 7 Try.f7 rfl rfl rfl rfl rfl rfl rfl ⟨rfl, rfl, rfl, rfl, rfl⟩ rfl rfl rfl rfl rfl (by kernel_rfl) Try.func7 (by kernel_rfl)
    (of_decide_eq_true (by kernel_rfl)) (by unfold Func.isWrapper; first | (rw [if_pos (by decide +kernel)]; kernel_rfl) | (rw [if_neg (by decide +kernel)]; exact ⟨rfl, rfl⟩))
    (fun os started H enc _ => lifted_ApplyLink os started H enc)

end Go.Proofs.Ytpbaccpojihpmaa
