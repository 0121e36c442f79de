/- For every input the law FnExactKeepsWeight returns true and leaves its arguments as they were. No condition. -/
import Derived.Test.YtpbaccpojihpmaaKeeps
import Derived.Test.YtpbaccpojihpmaaIntSz
import Derived.Test.YtpbaccpojihpmaaRuleTo
import Derived.Test.YtpbaccpojihpmaaSystem
import Derived.Test.YtpbaccpojihpmaaOpenArgs
import Derived.Test.YtpbaccpojihpmaaLawBase
namespace Go.Proofs.Ytpbaccpojihpmaa
open Go.ChangeShapes Go.WideShapes Go.ChangeAt Go.RowKit Go.Shelf

set_option maxRecDepth 100000 in
set_option maxHeartbeats 1000000 in
theorem law_KeepsWeight (w : World) (v0 : Value) (z0 : Int × Option Addr × Nat × Nat × List RuleT) (R0 : OpenSystem w v0 z0) (m : Int) (_ : (Lit.int .i64 m).wf = true) (A2 : Option Addr) (n2 c2 : Nat) (ws : List Int) (R2 : OpenSlInts w A2 n2 ws) :
    Calls Try.prog 8 #[v0, .int .i64 m, .slice A2 n2 c2] w (Kept w (.bool true)) := by
  obtain ⟨l0, A0, n0, c0, rs⟩ := z0
  obtain ⟨rfl, hr0, hn0, hm0, hz0⟩ := R0
  dsimp only at hr0 hn0 hm0 hz0
  obtain ⟨hr2, hn2, hm2, hz2⟩ := R2
  unfold maxLen at hm2
  by_cases hb2 : n2 ≤ 1048576
  rotate_left
  · skip
    go_enter Try.func8, Try.ntmps8
    go_wp2_with fail
    go_ret
    exact ⟨rfl, (by repeat (first | exact Below.refl _ _ | (refine Below.alloc ?_ (by simp <;> omega) _)))⟩
  have Hn0 := Lib.hid hn0
  clear hn0
  have Hn2 := Lib.hid hn2
  clear hn2
  go_enter Try.func8, Try.ntmps8
  go_wp2_with fail
  generalize hq : (w.alloc (.cells #[.int .i64 l0, .slice A0 n0 c0] 52)) = w1
  have b1 : Below w.heap.size w w1 := by rw [← hq]; exact ((Below.refl _ _).alloc (by simp <;> omega) _)
  have t1 := b1
  have xp0_1 : Bk w1 (w.heap.size) 52 #[.int .i64 l0, .slice A0 n0 c0] := by rw [← hq]; exact ((Bk.new w 52 #[.int .i64 l0, .slice A0 n0 c0])).cast (by simp)
  clear hq
  have cp0_0 : w1.cell? ⟨w.heap.size, 0, none⟩ = some (.int .i64 l0) := by rw [xp0_1.cell]; rfl
  have cp0_1 : w1.cell? ⟨w.heap.size, 1, none⟩ = some (.slice A0 n0 c0) := by rw [xp0_1.cell]; rfl
  have lp0 := xp0_1.lt
  have XP0_1 := Lib.hid xp0_1
  clear xp0_1
  (try go_wp2_with fail)
  (with_reducible refine (szSystem_any l0 A0 n0 c0 rs 1048576 _ (hr0.keep t1) Hn0.out hm0 (by omega) (by omega) hz0).mono ?_)
  rintro e w2 ⟨rfl, b2⟩
  have t2 := t1.trans (b2.mono t1.size)
  clear lp0 cp0_0 cp0_1
  have xp0_2 := XP0_1.out.below b2 XP0_1.out.lt
  clear XP0_1
  have cp0_0 : w2.cell? ⟨w.heap.size, 0, none⟩ = some (.int .i64 l0) := by rw [xp0_2.cell]; rfl
  have cp0_1 : w2.cell? ⟨w.heap.size, 1, none⟩ = some (.slice A0 n0 c0) := by rw [xp0_2.cell]; rfl
  have lp0 := xp0_2.lt
  have XP0_2 := Lib.hid xp0_2
  clear xp0_2
  by_cases ht0 : (1048576 : Int) - (totRule rs : Nat) < 0
  · rw [szLeft, if_pos ht0]
    go_wp2_with fail
    go_ret
    exact ⟨rfl, t2⟩
  rw [szLeft, if_neg ht0]
  have hs0 : totRule rs ≤ 1048576 := by omega
  have hb0 : n0 ≤ 1048576 := by have := tot_len_rules rs; have := Hn0.out; omega
  have hy0 := tot_all_rules rs hs0
  have hl0 : (0 : Int) ≤ 1048576 - (totRule rs : Nat) := by omega
  clear ht0
  go_wp2_with fail
  (with_reducible refine (toSystem_any l0 A0 n0 c0 rs _ (hr0.keep t2) Hn0.out hb0 hy0).mono ?_)
  rintro e w3 ⟨B3, d3, rfl, ox3_3, b3⟩
  have t3 := t2.trans (b3.mono t2.size)
  clear lp0 cp0_0 cp0_1
  have xp0_3 := XP0_2.out.below b3 XP0_2.out.lt
  clear XP0_2
  have cp0_0 : w3.cell? ⟨w.heap.size, 0, none⟩ = some (.int .i64 l0) := by rw [xp0_3.cell]; rfl
  have cp0_1 : w3.cell? ⟨w.heap.size, 1, none⟩ = some (.slice A0 n0 c0) := by rw [xp0_3.cell]; rfl
  have lp0 := xp0_3.lt
  have XP0_3 := Lib.hid xp0_3
  clear xp0_3
  go_wp2_with fail
  (with_reducible refine (toIntS_any A2 n2 c2 ws _ (hr2.keep t3) Hn2.out hb2).mono ?_)
  rintro e w4 ⟨B4, d4, rfl, ox4_4, b4⟩
  have t4 := t3.trans (b4.mono t3.size)
  have a_x3_x4 := Lib.hid (own_apart ox3_3 ox4_4 (Nat.le_refl _))
  have a_x4_x3 := Lib.hid (own_apart' ox4_4 ox3_3 (Nat.le_refl _))
  clear lp0 cp0_0 cp0_1
  have ox3_4 := own_keep ox3_3 b4 (Nat.le_refl _)
  clear ox3_3
  have xp0_4 := XP0_3.out.below b4 XP0_3.out.lt
  clear XP0_3
  have cp0_0 : w4.cell? ⟨w.heap.size, 0, none⟩ = some (.int .i64 l0) := by rw [xp0_4.cell]; rfl
  have cp0_1 : w4.cell? ⟨w.heap.size, 1, none⟩ = some (.slice A0 n0 c0) := by rw [xp0_4.cell]; rfl
  have lp0 := xp0_4.lt
  have XP0_4 := Lib.hid xp0_4
  clear xp0_4
  go_wp2_with fail
  (with_reducible refine (specKeepsWeight_any l0 B3 n0 d3 rs m B4 n2 d4 ws _ (Rd.of_own ox3_4) Hn0.out hb0 hy0 (Rd.of_own ox4_4) Hn2.out hb2).mono ?_)
  rintro e w5 ⟨rfl, b5⟩
  have t5 := t4.trans (b5.mono t4.size)
  clear lp0 cp0_0 cp0_1
  have ox3_5 := own_keep ox3_4 b5 (Nat.le_refl _)
  clear ox3_4
  have ox4_5 := own_keep ox4_4 b5 (Nat.le_refl _)
  clear ox4_4
  have xp0_5 := XP0_4.out.below b5 XP0_4.out.lt
  clear XP0_4
  have cp0_0 : w5.cell? ⟨w.heap.size, 0, none⟩ = some (.int .i64 l0) := by rw [xp0_5.cell]; rfl
  have cp0_1 : w5.cell? ⟨w.heap.size, 1, none⟩ = some (.slice A0 n0 c0) := by rw [xp0_5.cell]; rfl
  have lp0 := xp0_5.lt
  have XP0_5 := Lib.hid xp0_5
  clear xp0_5
  clear ox3_5
  clear ox4_5
  go_wp2_with fail
  (with_reducible refine (toSystem_any l0 A0 n0 c0 rs _ (hr0.keep t5) Hn0.out hb0 hy0).mono ?_)
  rintro e w6 ⟨B6, d6, rfl, ox6_6, b6⟩
  have t6 := t5.trans (b6.mono t5.size)
  clear lp0 cp0_0 cp0_1
  have xp0_6 := XP0_5.out.below b6 XP0_5.out.lt
  clear XP0_5
  have cp0_0 : w6.cell? ⟨w.heap.size, 0, none⟩ = some (.int .i64 l0) := by rw [xp0_6.cell]; rfl
  have cp0_1 : w6.cell? ⟨w.heap.size, 1, none⟩ = some (.slice A0 n0 c0) := by rw [xp0_6.cell]; rfl
  have lp0 := xp0_6.lt
  have XP0_6 := Lib.hid xp0_6
  clear xp0_6
  go_wp2_with fail
  generalize hq : w6.alloc (.cells #[.int .i64 l0, .slice B6 n0 d6] 60) = w7
  have b7 : Below w6.heap.size w6 w7 := by rw [← hq]; exact (Below.refl _ _).alloc (Nat.le_refl _) _
  have t7 := t6.trans (b7.mono t6.size)
  have xv7_7 : Bk w7 w6.heap.size 60 #[.int .i64 l0, .slice B6 n0 d6] := by rw [← hq]; exact Bk.new _ _ _
  clear hq
  clear lp0 cp0_0 cp0_1
  have ox6_7 := own_keep ox6_6 b7 (Nat.le_refl _)
  clear ox6_6
  have xp0_7 := XP0_6.out.below b7 XP0_6.out.lt
  clear XP0_6
  have cp0_0 : w7.cell? ⟨w.heap.size, 0, none⟩ = some (.int .i64 l0) := by rw [xp0_7.cell]; rfl
  have cp0_1 : w7.cell? ⟨w.heap.size, 1, none⟩ = some (.slice A0 n0 c0) := by rw [xp0_7.cell]; rfl
  have lp0 := xp0_7.lt
  have XP0_7 := Lib.hid xp0_7
  clear xp0_7
  have cv7_0 : w7.cell? ⟨w6.heap.size, 0, none⟩ = some (.int .i64 l0) := by rw [xv7_7.cell]; rfl
  have cv7_1 : w7.cell? ⟨w6.heap.size, 1, none⟩ = some (.slice B6 n0 d6) := by rw [xv7_7.cell]; rfl
  have lv7 := xv7_7.lt
  have XV7_7 := Lib.hid xv7_7
  clear xv7_7
  (try go_wp2_with fail)
  (with_reducible refine (toIntS_any A2 n2 c2 ws _ (hr2.keep t7) Hn2.out hb2).mono ?_)
  rintro e w8 ⟨B8, d8, rfl, ox8_8, b8⟩
  have t8 := t7.trans (b8.mono t7.size)
  have a_x6_x8 := Lib.hid (own_apart ox6_7 ox8_8 (Nat.le_refl _))
  have a_x8_x6 := Lib.hid (own_apart' ox8_8 ox6_7 (Nat.le_refl _))
  clear lp0 cp0_0 cp0_1
  clear lv7 cv7_0 cv7_1
  have ox6_8 := own_keep ox6_7 b8 (Nat.le_refl _)
  clear ox6_7
  have xp0_8 := XP0_7.out.below b8 XP0_7.out.lt
  clear XP0_7
  have xv7_8 := XV7_7.out.below b8 XV7_7.out.lt
  clear XV7_7
  have cp0_0 : w8.cell? ⟨w.heap.size, 0, none⟩ = some (.int .i64 l0) := by rw [xp0_8.cell]; rfl
  have cp0_1 : w8.cell? ⟨w.heap.size, 1, none⟩ = some (.slice A0 n0 c0) := by rw [xp0_8.cell]; rfl
  have lp0 := xp0_8.lt
  have XP0_8 := Lib.hid xp0_8
  clear xp0_8
  have cv7_0 : w8.cell? ⟨w6.heap.size, 0, none⟩ = some (.int .i64 l0) := by rw [xv7_8.cell]; rfl
  have cv7_1 : w8.cell? ⟨w6.heap.size, 1, none⟩ = some (.slice B6 n0 d6) := by rw [xv7_8.cell]; rfl
  have lv7 := xv7_8.lt
  have XV7_8 := Lib.hid xv7_8
  clear xv7_8
  go_wp2_with fail
  (with_reducible refine (implKeepsWeight_any l0 B6 n0 d6 rs m B8 n2 d8 ws _ (Rd.of_own ox6_8) Hn0.out hb0 hy0 (Rd.of_own ox8_8) Hn2.out hb2).mono ?_)
  rintro e w9 ⟨rfl, b9⟩
  have t9 := t8.trans (b9.mono t8.size)
  clear lp0 cp0_0 cp0_1
  clear lv7 cv7_0 cv7_1
  have ox6_9 := own_keep ox6_8 b9 (Nat.le_refl _)
  clear ox6_8
  have ox8_9 := own_keep ox8_8 b9 (Nat.le_refl _)
  clear ox8_8
  have xp0_9 := XP0_8.out.below b9 XP0_8.out.lt
  clear XP0_8
  have xv7_9 := XV7_8.out.below b9 XV7_8.out.lt
  clear XV7_8
  have cp0_0 : w9.cell? ⟨w.heap.size, 0, none⟩ = some (.int .i64 l0) := by rw [xp0_9.cell]; rfl
  have cp0_1 : w9.cell? ⟨w.heap.size, 1, none⟩ = some (.slice A0 n0 c0) := by rw [xp0_9.cell]; rfl
  have lp0 := xp0_9.lt
  have XP0_9 := Lib.hid xp0_9
  clear xp0_9
  have cv7_0 : w9.cell? ⟨w6.heap.size, 0, none⟩ = some (.int .i64 l0) := by rw [xv7_9.cell]; rfl
  have cv7_1 : w9.cell? ⟨w6.heap.size, 1, none⟩ = some (.slice B6 n0 d6) := by rw [xv7_9.cell]; rfl
  have lv7 := xv7_9.lt
  have XV7_9 := Lib.hid xv7_9
  clear xv7_9
  go_wp2_with fail
  have eS : ∀ w', Below w9.drew.heap.size w9.drew w' → w'.cell? ⟨w.heap.size, 0, none⟩ = some (.int .i64 l0) ∧ w'.cell? ⟨w.heap.size, 1, none⟩ = some (.slice A0 n0 c0) ∧ w'.cell? ⟨w6.heap.size, 0, none⟩ = some (.int .i64 l0) ∧ w'.cell? ⟨w6.heap.size, 1, none⟩ = some (.slice B6 n0 d6) := fun w' hb => ⟨(hb.cell (p := ⟨w.heap.size, 0, none⟩) XP0_9.out.lt).trans cp0_0, (hb.cell (p := ⟨w.heap.size, 1, none⟩) XP0_9.out.lt).trans cp0_1, (hb.cell (p := ⟨w6.heap.size, 0, none⟩) XV7_9.out.lt).trans cv7_0, (hb.cell (p := ⟨w6.heap.size, 1, none⟩) XV7_9.out.lt).trans cv7_1⟩
  have zS := eS _ (Below.refl _ _)
  have ES := Lib.hid eS
  clear eS
  have ZS := Lib.hid zS
  clear zS
  go_region_held3 (fun w' => w'.cell? ⟨w.heap.size, 0, none⟩ = some (.int .i64 l0) ∧ w'.cell? ⟨w.heap.size, 1, none⟩ = some (.slice A0 n0 c0) ∧ w'.cell? ⟨w6.heap.size, 0, none⟩ = some (.int .i64 l0) ∧ w'.cell? ⟨w6.heap.size, 1, none⟩ = some (.slice B6 n0 d6)) (first | exact ZS.out | assumption) ((first | ((with_reducible refine (toSystem_any l0 A0 n0 c0 rs _ (Rd.drew (hr0.keep t9)) Hn0.out hb0 hy0).mono ?_); rintro e y9 ⟨B10, d10, rfl, oy9, hU1⟩; have hS1 := ES.out _ hU1; have oz9 := own_keep (w := w9.drew) ox6_9 hU1 (Nat.le_refl _)) | ((with_reducible refine (eqSystem_k l0 B6 n0 d6 rs l0 B10 n0 d10 rs _ (Rd.of_own oz9) Hn0.out (le_big hb0) (Rd.of_own oy9) Hn0.out (le_big hb0)).mono ?_); rintro e w10 ⟨rfl, hU2⟩; have hU3 := hU1.trans (hU2.mono hU1.size); have hS2 := ES.out _ hU3)))
  have b10 : Below w9.heap.size w9 w10 := ((Below.refl _ _).drew).trans hU3
  have t10 := t9.trans (b10.mono t9.size)
  clear hU1 hU2 hU3 hS1 hS2 ES ZS oy9 oz9
  clear lp0 cp0_0 cp0_1
  clear lv7 cv7_0 cv7_1
  have ox6_10 := own_keep ox6_9 b10 (Nat.le_refl _)
  clear ox6_9
  have ox8_10 := own_keep ox8_9 b10 (Nat.le_refl _)
  clear ox8_9
  have xp0_10 := XP0_9.out.below b10 XP0_9.out.lt
  clear XP0_9
  have xv7_10 := XV7_9.out.below b10 XV7_9.out.lt
  clear XV7_9
  have cp0_0 : w10.cell? ⟨w.heap.size, 0, none⟩ = some (.int .i64 l0) := by rw [xp0_10.cell]; rfl
  have cp0_1 : w10.cell? ⟨w.heap.size, 1, none⟩ = some (.slice A0 n0 c0) := by rw [xp0_10.cell]; rfl
  have lp0 := xp0_10.lt
  have XP0_10 := Lib.hid xp0_10
  clear xp0_10
  have cv7_0 : w10.cell? ⟨w6.heap.size, 0, none⟩ = some (.int .i64 l0) := by rw [xv7_10.cell]; rfl
  have cv7_1 : w10.cell? ⟨w6.heap.size, 1, none⟩ = some (.slice B6 n0 d6) := by rw [xv7_10.cell]; rfl
  have lv7 := xv7_10.lt
  have XV7_10 := Lib.hid xv7_10
  clear xv7_10
  go_wp2_with fail
  (with_reducible refine (toIntS_any A2 n2 c2 ws _ (hr2.keep t10) Hn2.out hb2).mono ?_)
  rintro e w11 ⟨B11, d11, rfl, ox11_11, b11⟩
  have t11 := t10.trans (b11.mono t10.size)
  have a_x6_x11 := Lib.hid (own_apart ox6_10 ox11_11 (Nat.le_refl _))
  have a_x11_x6 := Lib.hid (own_apart' ox11_11 ox6_10 (Nat.le_refl _))
  have a_x8_x11 := Lib.hid (own_apart ox8_10 ox11_11 (Nat.le_refl _))
  have a_x11_x8 := Lib.hid (own_apart' ox11_11 ox8_10 (Nat.le_refl _))
  clear lp0 cp0_0 cp0_1
  clear lv7 cv7_0 cv7_1
  have ox6_11 := own_keep ox6_10 b11 (Nat.le_refl _)
  clear ox6_10
  have ox8_11 := own_keep ox8_10 b11 (Nat.le_refl _)
  clear ox8_10
  have xp0_11 := XP0_10.out.below b11 XP0_10.out.lt
  clear XP0_10
  have xv7_11 := XV7_10.out.below b11 XV7_10.out.lt
  clear XV7_10
  have cp0_0 : w11.cell? ⟨w.heap.size, 0, none⟩ = some (.int .i64 l0) := by rw [xp0_11.cell]; rfl
  have cp0_1 : w11.cell? ⟨w.heap.size, 1, none⟩ = some (.slice A0 n0 c0) := by rw [xp0_11.cell]; rfl
  have lp0 := xp0_11.lt
  have XP0_11 := Lib.hid xp0_11
  clear xp0_11
  have cv7_0 : w11.cell? ⟨w6.heap.size, 0, none⟩ = some (.int .i64 l0) := by rw [xv7_11.cell]; rfl
  have cv7_1 : w11.cell? ⟨w6.heap.size, 1, none⟩ = some (.slice B6 n0 d6) := by rw [xv7_11.cell]; rfl
  have lv7 := xv7_11.lt
  have XV7_11 := Lib.hid xv7_11
  clear xv7_11
  go_wp2_with fail
  (with_reducible refine (eqIntS_k B8 n2 d8 ws  B11 n2 d11 ws _ (Rd.of_own ox8_11) Hn2.out (le_big hb2) (Rd.of_own ox11_11) Hn2.out (le_big hb2)).mono ?_)
  rintro e w12 ⟨rfl, b12⟩
  have t12 := t11.trans (b12.mono t11.size)
  clear lp0 cp0_0 cp0_1
  clear lv7 cv7_0 cv7_1
  have ox6_12 := own_keep ox6_11 b12 (Nat.le_refl _)
  clear ox6_11
  have ox8_12 := own_keep ox8_11 b12 (Nat.le_refl _)
  clear ox8_11
  have ox11_12 := own_keep ox11_11 b12 (Nat.le_refl _)
  clear ox11_11
  have xp0_12 := XP0_11.out.below b12 XP0_11.out.lt
  clear XP0_11
  have xv7_12 := XV7_11.out.below b12 XV7_11.out.lt
  clear XV7_11
  have cp0_0 : w12.cell? ⟨w.heap.size, 0, none⟩ = some (.int .i64 l0) := by rw [xp0_12.cell]; rfl
  have cp0_1 : w12.cell? ⟨w.heap.size, 1, none⟩ = some (.slice A0 n0 c0) := by rw [xp0_12.cell]; rfl
  have lp0 := xp0_12.lt
  have XP0_12 := Lib.hid xp0_12
  clear xp0_12
  have cv7_0 : w12.cell? ⟨w6.heap.size, 0, none⟩ = some (.int .i64 l0) := by rw [xv7_12.cell]; rfl
  have cv7_1 : w12.cell? ⟨w6.heap.size, 1, none⟩ = some (.slice B6 n0 d6) := by rw [xv7_12.cell]; rfl
  have lv7 := xv7_12.lt
  have XV7_12 := Lib.hid xv7_12
  clear xv7_12
  clear ox11_12
  go_wp2_with fail
  go_ret
  exact ⟨rfl, t12⟩
  
set_option maxRecDepth 100000 in
theorem lifted_KeepsWeight (os : Os) (started : os.Started) (H : Type) (enc : TypeId × Value → H) :
    ReturnsInHanded {} Try.checked os 8 .any (Rows.fnExactKeepsWeightSpec.pre6 enc Try.prog Try.f8 Rows.fnExactKeepsWeightRow.domain false) (Rows.fnExactKeepsWeightSpec.post enc Try.prog Try.f8 false true false false) := by
  refine returnsInHanded_of_change (C := Try.checked) own_knob started (by kernel_rfl) Try.func8
    (ChangeSpec.witness6 (enc := enc) (C := Try.checked) false ⟨#[], #[.agg #[.int .i64 0, .slice none 0 0], .int .i64 0, .slice none 0 0], []⟩ 8 (by kernel_rfl) (by kernel_rfl) (by kernel_rfl) (by kernel_rfl)) ?_
  intro W base args ds gs before hval0 hW _ _
  have hval : ∀ (j : Nat) t v, Try.f8.params[j]? = some t → args[j]? = some v → Value.okWide Try.prog W .any base t v := hval0
  have hW' := hW
  obtain ⟨p, q, hA0, hV, rfl, hfz, hnd⟩ := hW
  have hA : DataW.TrodAll enc Try.prog W 0 (fun _ => true) true Try.f8.params.toList args.toList ds p := hA0
  rw [Try.params8] at hA hval
  obtain ⟨v0, vs0, d0, ds0, p0, q0, hargs, rfl, rfl, h0, r0⟩ := trodAll_cons hA
  obtain ⟨v1, vs1, d1, ds1, p1, q1, rfl, rfl, rfl, h1, r1⟩ := trodAll_cons r0
  obtain ⟨v2, vs2, d2, ds2, p2, q2, rfl, rfl, rfl, h2, r2⟩ := trodAll_cons r1
  obtain ⟨rfl, rfl, rfl⟩ := trodAll_nil r2
  obtain rfl : args = #[v0, v1, v2] := by cases args; simp_all
  obtain ⟨rfl, rfl⟩ := trodVars_none hV
  have k0 := h0
  have lt0 : ∀ x ∈ p0, x.block < W.heap.size := by obtain ⟨m, hm⟩ := k0; exact DataW.trod_lt m _ _ _ hm
  have k1 := h1
  have lt1 : ∀ x ∈ p1, x.block < W.heap.size := by obtain ⟨m, hm⟩ := k1; exact DataW.trod_lt m _ _ _ hm
  have k2 := h2
  have lt2 : ∀ x ∈ p2, x.block < W.heap.size := by obtain ⟨m, hm⟩ := k2; exact DataW.trod_lt m _ _ _ hm
  obtain ⟨z0, R0⟩ := open_system (hval 0 52 v0 rfl rfl) h0
  obtain ⟨a1, rfl, rfl, rfl, wf1⟩ := open_int Try.underlying3 (hval 1 3 v1 rfl rfl) h1
  obtain ⟨a2, len2, cap2, rfl⟩ := okWide_slice Try.underlying30 (hval 2 30 v2 rfl rfl)
  obtain ⟨z2, R2⟩ := open_intS h2
  clear hA0 hval0
  refine (law_KeepsWeight W v0 z0 R0 a1 wf1 a2 len2 cap2 z2 R2).mono fun e W' ⟨he, bel⟩ => ?_
  subst he
  exact ⟨_, rfl, _, _, _, [], _, [], hW', trodAll_mk1 (shut_bool Try.underlying4 _), (trodAll_cons_mk (Below.trod laid_out (by kernel_rfl) (of_decide_eq_true (by kernel_rfl)) k0 bel lt0) (trodAll_cons_mk (Below.trod laid_out (by kernel_rfl) (of_decide_eq_true (by kernel_rfl)) k1 bel lt1) (trodAll_cons_mk (Below.trod laid_out (by kernel_rfl) (of_decide_eq_true (by kernel_rfl)) k2 bel lt2) trodAll_mk0))), rfl, bel.frame _, fun h => by cases h⟩

theorem KeepsWeight_holds : Rows.FnExactKeepsWeightSaid :=
  OpenClaim.holds_of_wide 8 Try.f8 rfl rfl rfl rfl rfl rfl rfl ⟨rfl, rfl, rfl, rfl, rfl⟩ rfl rfl rfl rfl rfl (by kernel_rfl) Try.func8 (by kernel_rfl)
    (of_decide_eq_true (by kernel_rfl)) (by unfold Func.isWrapper; first | (rw [if_pos (by decide +kernel)]; kernel_rfl) | (rw [if_neg (by decide +kernel)]; exact ⟨rfl, rfl⟩))
    (fun os started H enc _ => lifted_KeepsWeight os started H enc)

end Go.Proofs.Ytpbaccpojihpmaa
