/- For every input the law FnExactAddWeights returns true and leaves its arguments as they were. No condition. -/
import Derived.Test.YtkklmpdinengnaaAddW
import Derived.Test.YtkklmpdinengnaaLawBase
namespace Go.Proofs.Ytkklmpdinengnaa
open Go.ChangeShapes Go.WideShapes Go.ChangeAt Go.RowKit Go.Shelf

set_option maxRecDepth 100000 in
set_option maxHeartbeats 1000000 in
theorem law_AddWeights (w : World) (m : Int) (_ : (Lit.int .i64 m).wf = true) (A1 : Option Addr) (n1 c1 : Nat) (xs : List Int) (R1 : OpenSlInts w A1 n1 xs) (A2 : Option Addr) (n2 c2 : Nat) (ys : List Int) (R2 : OpenSlInts w A2 n2 ys) :
    Calls Try.prog 7 #[.int .i64 m, .slice A1 n1 c1, .slice A2 n2 c2] w (Kept w (.bool true)) := by
  obtain ⟨hr1, hn1, hm1, hz1⟩ := R1
  obtain ⟨hr2, hn2, hm2, hz2⟩ := R2
  unfold maxLen at hm1
  by_cases hb1 : n1 ≤ 1048576
  rotate_left
  · skip
    go_enter Try.func7, Try.ntmps7
    go_wp2_with fail
    go_ret
    exact ⟨rfl, Below.refl _ _⟩
  unfold maxLen at hm2
  by_cases hb2 : n2 ≤ 1048576
  rotate_left
  · skip
    go_enter Try.func7, Try.ntmps7
    go_wp2_with fail
    go_ret
    exact ⟨rfl, Below.refl _ _⟩
  have Hn1 := Lib.hid hn1
  clear hn1
  have Hn2 := Lib.hid hn2
  clear hn2
  go_enter Try.func7, Try.ntmps7
  go_wp2_with fail
  (with_reducible refine (toIntS_any A1 n1 c1 xs _ hr1 Hn1.out hb1).mono ?_)
  rintro e w1 ⟨B1, d1, rfl, ox1_1, b1⟩
  have t1 := b1
  go_wp2_with fail
  (with_reducible refine (toIntS_any A2 n2 c2 ys _ (hr2.keep t1) Hn2.out hb2).mono ?_)
  rintro e w2 ⟨B2, d2, rfl, ox2_2, b2⟩
  have t2 := t1.trans (b2.mono t1.size)
  have a_x1_x2 := Lib.hid (own_apart ox1_1 ox2_2 (Nat.le_refl _))
  have a_x2_x1 := Lib.hid (own_apart' ox2_2 ox1_1 (Nat.le_refl _))
  have ox1_2 := own_keep ox1_1 b2 (Nat.le_refl _)
  clear ox1_1
  go_wp2_with fail
  (with_reducible refine (specAddWeights_any m B1 n1 d1 xs B2 n2 d2 ys _ (Rd.of_own ox1_2) Hn1.out hb1 (Rd.of_own ox2_2) Hn2.out hb2).mono ?_)
  rintro e w3 ⟨B3, d3, rfl, og3_3, b3⟩
  have t3 := t2.trans (b3.mono t2.size)
  have a_x1_g3 := Lib.hid (own_apart ox1_2 og3_3 (Nat.le_refl _))
  have a_g3_x1 := Lib.hid (own_apart' og3_3 ox1_2 (Nat.le_refl _))
  have a_x2_g3 := Lib.hid (own_apart ox2_2 og3_3 (Nat.le_refl _))
  have a_g3_x2 := Lib.hid (own_apart' og3_3 ox2_2 (Nat.le_refl _))
  have ox1_3 := own_keep ox1_2 b3 (Nat.le_refl _)
  clear ox1_2
  have ox2_3 := own_keep ox2_2 b3 (Nat.le_refl _)
  clear ox2_2
  clear ox1_3
  clear ox2_3
  go_wp2_with fail
  (with_reducible refine (toIntS_any A1 n1 c1 xs _ (hr1.keep t3) Hn1.out hb1).mono ?_)
  rintro e w4 ⟨B4, d4, rfl, ox4_4, b4⟩
  have t4 := t3.trans (b4.mono t3.size)
  have a_g3_x4 := Lib.hid (own_apart og3_3 ox4_4 (Nat.le_refl _))
  have a_x4_g3 := Lib.hid (own_apart' ox4_4 og3_3 (Nat.le_refl _))
  have og3_4 := own_keep og3_3 b4 (Nat.le_refl _)
  clear og3_3
  go_wp2_with fail
  (with_reducible refine (toIntS_any A2 n2 c2 ys _ (hr2.keep t4) Hn2.out hb2).mono ?_)
  rintro e w5 ⟨B5, d5, rfl, ox5_5, b5⟩
  have t5 := t4.trans (b5.mono t4.size)
  have a_g3_x5 := Lib.hid (own_apart og3_4 ox5_5 (Nat.le_refl _))
  have a_x5_g3 := Lib.hid (own_apart' ox5_5 og3_4 (Nat.le_refl _))
  have a_x4_x5 := Lib.hid (own_apart ox4_4 ox5_5 (Nat.le_refl _))
  have a_x5_x4 := Lib.hid (own_apart' ox5_5 ox4_4 (Nat.le_refl _))
  have og3_5 := own_keep og3_4 b5 (Nat.le_refl _)
  clear og3_4
  have ox4_5 := own_keep ox4_4 b5 (Nat.le_refl _)
  clear ox4_4
  go_wp2_with fail
  (with_reducible refine (implAddWeights_any m B4 n1 d4 xs B5 n2 d5 ys _ (Rd.of_own ox4_5) Hn1.out hb1 (Rd.of_own ox5_5) Hn2.out hb2).mono ?_)
  rintro e w6 ⟨B6, d6, rfl, og6_6, b6⟩
  have t6 := t5.trans (b6.mono t5.size)
  have a_g3_g6 := Lib.hid (own_apart og3_5 og6_6 (Nat.le_refl _))
  have a_g6_g3 := Lib.hid (own_apart' og6_6 og3_5 (Nat.le_refl _))
  have a_x4_g6 := Lib.hid (own_apart ox4_5 og6_6 (Nat.le_refl _))
  have a_g6_x4 := Lib.hid (own_apart' og6_6 ox4_5 (Nat.le_refl _))
  have a_x5_g6 := Lib.hid (own_apart ox5_5 og6_6 (Nat.le_refl _))
  have a_g6_x5 := Lib.hid (own_apart' og6_6 ox5_5 (Nat.le_refl _))
  have og3_6 := own_keep og3_5 b6 (Nat.le_refl _)
  clear og3_5
  have ox4_6 := own_keep ox4_5 b6 (Nat.le_refl _)
  clear ox4_5
  have ox5_6 := own_keep ox5_5 b6 (Nat.le_refl _)
  clear ox5_5
  go_wp2_with fail
  (with_reducible refine (eqIntS_k B6 ((addW m xs ys).length) d6 (addW m xs ys)  B3 ((addW m xs ys).length) d3 (addW m xs ys) _ (Rd.of_own og6_6) rfl (le_big (addW_len m xs ys)) (Rd.of_own og3_6) rfl (le_big (addW_len m xs ys))).mono ?_)
  rintro e w7 ⟨rfl, b7⟩
  have t7 := t6.trans (b7.mono t6.size)
  have og3_7 := own_keep og3_6 b7 (Nat.le_refl _)
  clear og3_6
  have ox4_7 := own_keep ox4_6 b7 (Nat.le_refl _)
  clear ox4_6
  have ox5_7 := own_keep ox5_6 b7 (Nat.le_refl _)
  clear ox5_6
  have og6_7 := own_keep og6_6 b7 (Nat.le_refl _)
  clear og6_6
  go_wp2_with fail
  (with_reducible refine (toIntS_any A1 n1 c1 xs _ (hr1.keep t7) Hn1.out hb1).mono ?_)
  rintro e w8 ⟨B8, d8, rfl, ox8_8, b8⟩
  have t8 := t7.trans (b8.mono t7.size)
  have a_g3_x8 := Lib.hid (own_apart og3_7 ox8_8 (Nat.le_refl _))
  have a_x8_g3 := Lib.hid (own_apart' ox8_8 og3_7 (Nat.le_refl _))
  have a_x4_x8 := Lib.hid (own_apart ox4_7 ox8_8 (Nat.le_refl _))
  have a_x8_x4 := Lib.hid (own_apart' ox8_8 ox4_7 (Nat.le_refl _))
  have a_x5_x8 := Lib.hid (own_apart ox5_7 ox8_8 (Nat.le_refl _))
  have a_x8_x5 := Lib.hid (own_apart' ox8_8 ox5_7 (Nat.le_refl _))
  have a_g6_x8 := Lib.hid (own_apart og6_7 ox8_8 (Nat.le_refl _))
  have a_x8_g6 := Lib.hid (own_apart' ox8_8 og6_7 (Nat.le_refl _))
  have og3_8 := own_keep og3_7 b8 (Nat.le_refl _)
  clear og3_7
  have ox4_8 := own_keep ox4_7 b8 (Nat.le_refl _)
  clear ox4_7
  have ox5_8 := own_keep ox5_7 b8 (Nat.le_refl _)
  clear ox5_7
  have og6_8 := own_keep og6_7 b8 (Nat.le_refl _)
  clear og6_7
  go_wp2_with fail
  (with_reducible refine (eqIntS_k B4 n1 d4 xs  B8 n1 d8 xs _ (Rd.of_own ox4_8) Hn1.out (le_big hb1) (Rd.of_own ox8_8) Hn1.out (le_big hb1)).mono ?_)
  rintro e w9 ⟨rfl, b9⟩
  have t9 := t8.trans (b9.mono t8.size)
  have og3_9 := own_keep og3_8 b9 (Nat.le_refl _)
  clear og3_8
  have ox4_9 := own_keep ox4_8 b9 (Nat.le_refl _)
  clear ox4_8
  have ox5_9 := own_keep ox5_8 b9 (Nat.le_refl _)
  clear ox5_8
  have og6_9 := own_keep og6_8 b9 (Nat.le_refl _)
  clear og6_8
  have ox8_9 := own_keep ox8_8 b9 (Nat.le_refl _)
  clear ox8_8
  clear ox8_9
  go_wp2_with fail
  (with_reducible refine (toIntS_any A2 n2 c2 ys _ (hr2.keep t9) Hn2.out hb2).mono ?_)
  rintro e w10 ⟨B10, d10, rfl, ox10_10, b10⟩
  have t10 := t9.trans (b10.mono t9.size)
  have a_g3_x10 := Lib.hid (own_apart og3_9 ox10_10 (Nat.le_refl _))
  have a_x10_g3 := Lib.hid (own_apart' ox10_10 og3_9 (Nat.le_refl _))
  have a_x4_x10 := Lib.hid (own_apart ox4_9 ox10_10 (Nat.le_refl _))
  have a_x10_x4 := Lib.hid (own_apart' ox10_10 ox4_9 (Nat.le_refl _))
  have a_x5_x10 := Lib.hid (own_apart ox5_9 ox10_10 (Nat.le_refl _))
  have a_x10_x5 := Lib.hid (own_apart' ox10_10 ox5_9 (Nat.le_refl _))
  have a_g6_x10 := Lib.hid (own_apart og6_9 ox10_10 (Nat.le_refl _))
  have a_x10_g6 := Lib.hid (own_apart' ox10_10 og6_9 (Nat.le_refl _))
  have og3_10 := own_keep og3_9 b10 (Nat.le_refl _)
  clear og3_9
  have ox4_10 := own_keep ox4_9 b10 (Nat.le_refl _)
  clear ox4_9
  have ox5_10 := own_keep ox5_9 b10 (Nat.le_refl _)
  clear ox5_9
  have og6_10 := own_keep og6_9 b10 (Nat.le_refl _)
  clear og6_9
  go_wp2_with fail
  (with_reducible refine (eqIntS_k B5 n2 d5 ys  B10 n2 d10 ys _ (Rd.of_own ox5_10) Hn2.out (le_big hb2) (Rd.of_own ox10_10) Hn2.out (le_big hb2)).mono ?_)
  rintro e w11 ⟨rfl, b11⟩
  have t11 := t10.trans (b11.mono t10.size)
  have og3_11 := own_keep og3_10 b11 (Nat.le_refl _)
  clear og3_10
  have ox4_11 := own_keep ox4_10 b11 (Nat.le_refl _)
  clear ox4_10
  have ox5_11 := own_keep ox5_10 b11 (Nat.le_refl _)
  clear ox5_10
  have og6_11 := own_keep og6_10 b11 (Nat.le_refl _)
  clear og6_10
  have ox10_11 := own_keep ox10_10 b11 (Nat.le_refl _)
  clear ox10_10
  clear ox10_11
  go_wp2_with fail
  (with_reducible refine (markIntS_any B4 n1 d4 _ 1 _ _ ox4_11 (by omega) (by have := hb1; omega)).mono ?_)
  rintro e w12 ⟨rfl, ox4_12, gr12⟩
  have t12 := below_marked t11 gr12 ox4_11 t3.size
  have og3_12 := og3_11.kept gr12 a_g3_x4.out
  clear og3_11
  have ox5_12 := ox5_11.kept gr12 a_x5_x4.out
  clear ox5_11
  have og6_12 := og6_11.kept gr12 a_g6_x4.out
  clear og6_11
  clear ox4_11 gr12
  go_wp2_with fail
  (with_reducible refine (markIntS_any B5 n2 d5 _ (1 + ((n1 : Nat) : Int)) _ _ ox5_12 (by omega) (by have := hb2; omega)).mono ?_)
  rintro e w13 ⟨rfl, ox5_13, gr13⟩
  have t13 := below_marked t12 gr13 ox5_12 t4.size
  have og3_13 := og3_12.kept gr13 a_g3_x5.out
  clear og3_12
  have ox4_13 := ox4_12.kept gr13 a_x4_x5.out
  clear ox4_12
  have og6_13 := og6_12.kept gr13 a_g6_x5.out
  clear og6_12
  clear ox5_12 gr13
  go_wp2_with fail
  (with_reducible refine (eqIntS_k B6 ((addW m xs ys).length) d6 (addW m xs ys)  B3 ((addW m xs ys).length) d3 (addW m xs ys) _ (Rd.of_own og6_13) rfl (le_big (addW_len m xs ys)) (Rd.of_own og3_13) rfl (le_big (addW_len m xs ys))).mono ?_)
  rintro e w14 ⟨rfl, b14⟩
  have t14 := t13.trans (b14.mono t13.size)
  have og3_14 := own_keep og3_13 b14 (Nat.le_refl _)
  clear og3_13
  have ox4_14 := own_keep ox4_13 b14 (Nat.le_refl _)
  clear ox4_13
  have ox5_14 := own_keep ox5_13 b14 (Nat.le_refl _)
  clear ox5_13
  have og6_14 := own_keep og6_13 b14 (Nat.le_refl _)
  clear og6_13
  go_wp2_with fail
  (with_reducible refine (markIntS_any B6 ((addW m xs ys).length) d6 _ 1 _ _ og6_14 (by omega) (by have := (addW_len m xs ys); omega)).mono ?_)
  rintro e w15 ⟨rfl, og6_15, gr15⟩
  have t15 := below_marked t14 gr15 og6_14 t5.size
  have og3_15 := og3_14.kept gr15 a_g3_g6.out
  clear og3_14
  have ox4_15 := ox4_14.kept gr15 a_x4_g6.out
  clear ox4_14
  have ox5_15 := ox5_14.kept gr15 a_x5_g6.out
  clear ox5_14
  clear og6_14 gr15
  go_wp2_with fail
  (with_reducible refine (heldIntS_k B6 ((addW m xs ys).length) d6 1 _ (Rd.of_own og6_15) (by omega) (by have := (addW_len m xs ys); omega)).mono ?_)
  rintro e w16 ⟨rfl, b16⟩
  have t16 := t15.trans (b16.mono t15.size)
  have og3_16 := own_keep og3_15 b16 (Nat.le_refl _)
  clear og3_15
  have ox4_16 := own_keep ox4_15 b16 (Nat.le_refl _)
  clear ox4_15
  have ox5_16 := own_keep ox5_15 b16 (Nat.le_refl _)
  clear ox5_15
  have og6_16 := own_keep og6_15 b16 (Nat.le_refl _)
  clear og6_15
  go_wp2_with fail
  (with_reducible refine (toIntS_any A1 n1 c1 xs _ (hr1.keep t16) Hn1.out hb1).mono ?_)
  rintro e w17 ⟨B17, d17, rfl, ox17_17, b17⟩
  have t17 := t16.trans (b17.mono t16.size)
  have a_g3_x17 := Lib.hid (own_apart og3_16 ox17_17 (Nat.le_refl _))
  have a_x17_g3 := Lib.hid (own_apart' ox17_17 og3_16 (Nat.le_refl _))
  have a_x4_x17 := Lib.hid (own_apart ox4_16 ox17_17 (Nat.le_refl _))
  have a_x17_x4 := Lib.hid (own_apart' ox17_17 ox4_16 (Nat.le_refl _))
  have a_x5_x17 := Lib.hid (own_apart ox5_16 ox17_17 (Nat.le_refl _))
  have a_x17_x5 := Lib.hid (own_apart' ox17_17 ox5_16 (Nat.le_refl _))
  have a_g6_x17 := Lib.hid (own_apart og6_16 ox17_17 (Nat.le_refl _))
  have a_x17_g6 := Lib.hid (own_apart' ox17_17 og6_16 (Nat.le_refl _))
  have og3_17 := own_keep og3_16 b17 (Nat.le_refl _)
  clear og3_16
  have ox4_17 := own_keep ox4_16 b17 (Nat.le_refl _)
  clear ox4_16
  have ox5_17 := own_keep ox5_16 b17 (Nat.le_refl _)
  clear ox5_16
  have og6_17 := own_keep og6_16 b17 (Nat.le_refl _)
  clear og6_16
  go_wp2_with fail
  (with_reducible refine (toIntS_any A2 n2 c2 ys _ (hr2.keep t17) Hn2.out hb2).mono ?_)
  rintro e w18 ⟨B18, d18, rfl, ox18_18, b18⟩
  have t18 := t17.trans (b18.mono t17.size)
  have a_g3_x18 := Lib.hid (own_apart og3_17 ox18_18 (Nat.le_refl _))
  have a_x18_g3 := Lib.hid (own_apart' ox18_18 og3_17 (Nat.le_refl _))
  have a_x4_x18 := Lib.hid (own_apart ox4_17 ox18_18 (Nat.le_refl _))
  have a_x18_x4 := Lib.hid (own_apart' ox18_18 ox4_17 (Nat.le_refl _))
  have a_x5_x18 := Lib.hid (own_apart ox5_17 ox18_18 (Nat.le_refl _))
  have a_x18_x5 := Lib.hid (own_apart' ox18_18 ox5_17 (Nat.le_refl _))
  have a_g6_x18 := Lib.hid (own_apart og6_17 ox18_18 (Nat.le_refl _))
  have a_x18_g6 := Lib.hid (own_apart' ox18_18 og6_17 (Nat.le_refl _))
  have a_x17_x18 := Lib.hid (own_apart ox17_17 ox18_18 (Nat.le_refl _))
  have a_x18_x17 := Lib.hid (own_apart' ox18_18 ox17_17 (Nat.le_refl _))
  have og3_18 := own_keep og3_17 b18 (Nat.le_refl _)
  clear og3_17
  have ox4_18 := own_keep ox4_17 b18 (Nat.le_refl _)
  clear ox4_17
  have ox5_18 := own_keep ox5_17 b18 (Nat.le_refl _)
  clear ox5_17
  have og6_18 := own_keep og6_17 b18 (Nat.le_refl _)
  clear og6_17
  have ox17_18 := own_keep ox17_17 b18 (Nat.le_refl _)
  clear ox17_17
  go_wp2_with fail
  (with_reducible refine (implAddWeights_any m B17 n1 d17 xs B18 n2 d18 ys _ (Rd.of_own ox17_18) Hn1.out hb1 (Rd.of_own ox18_18) Hn2.out hb2).mono ?_)
  rintro e w19 ⟨B19, d19, rfl, og19_19, b19⟩
  have t19 := t18.trans (b19.mono t18.size)
  have a_g3_g19 := Lib.hid (own_apart og3_18 og19_19 (Nat.le_refl _))
  have a_g19_g3 := Lib.hid (own_apart' og19_19 og3_18 (Nat.le_refl _))
  have a_x4_g19 := Lib.hid (own_apart ox4_18 og19_19 (Nat.le_refl _))
  have a_g19_x4 := Lib.hid (own_apart' og19_19 ox4_18 (Nat.le_refl _))
  have a_x5_g19 := Lib.hid (own_apart ox5_18 og19_19 (Nat.le_refl _))
  have a_g19_x5 := Lib.hid (own_apart' og19_19 ox5_18 (Nat.le_refl _))
  have a_g6_g19 := Lib.hid (own_apart og6_18 og19_19 (Nat.le_refl _))
  have a_g19_g6 := Lib.hid (own_apart' og19_19 og6_18 (Nat.le_refl _))
  have a_x17_g19 := Lib.hid (own_apart ox17_18 og19_19 (Nat.le_refl _))
  have a_g19_x17 := Lib.hid (own_apart' og19_19 ox17_18 (Nat.le_refl _))
  have a_x18_g19 := Lib.hid (own_apart ox18_18 og19_19 (Nat.le_refl _))
  have a_g19_x18 := Lib.hid (own_apart' og19_19 ox18_18 (Nat.le_refl _))
  have og3_19 := own_keep og3_18 b19 (Nat.le_refl _)
  clear og3_18
  have ox4_19 := own_keep ox4_18 b19 (Nat.le_refl _)
  clear ox4_18
  have ox5_19 := own_keep ox5_18 b19 (Nat.le_refl _)
  clear ox5_18
  have og6_19 := own_keep og6_18 b19 (Nat.le_refl _)
  clear og6_18
  have ox17_19 := own_keep ox17_18 b19 (Nat.le_refl _)
  clear ox17_18
  have ox18_19 := own_keep ox18_18 b19 (Nat.le_refl _)
  clear ox18_18
  clear ox17_19
  clear ox18_19
  go_wp2_with fail
  (with_reducible refine (eqIntS_k B19 ((addW m xs ys).length) d19 (addW m xs ys)  B3 ((addW m xs ys).length) d3 (addW m xs ys) _ (Rd.of_own og19_19) rfl (le_big (addW_len m xs ys)) (Rd.of_own og3_19) rfl (le_big (addW_len m xs ys))).mono ?_)
  rintro e w20 ⟨rfl, b20⟩
  have t20 := t19.trans (b20.mono t19.size)
  have og3_20 := own_keep og3_19 b20 (Nat.le_refl _)
  clear og3_19
  have ox4_20 := own_keep ox4_19 b20 (Nat.le_refl _)
  clear ox4_19
  have ox5_20 := own_keep ox5_19 b20 (Nat.le_refl _)
  clear ox5_19
  have og6_20 := own_keep og6_19 b20 (Nat.le_refl _)
  clear og6_19
  have og19_20 := own_keep og19_19 b20 (Nat.le_refl _)
  clear og19_19
  go_wp2_with fail
  (with_reducible refine (heldIntS_k B6 ((addW m xs ys).length) d6 1 _ (Rd.of_own og6_20) (by omega) (by have := (addW_len m xs ys); omega)).mono ?_)
  rintro e w21 ⟨rfl, b21⟩
  have t21 := t20.trans (b21.mono t20.size)
  have og3_21 := own_keep og3_20 b21 (Nat.le_refl _)
  clear og3_20
  have ox4_21 := own_keep ox4_20 b21 (Nat.le_refl _)
  clear ox4_20
  have ox5_21 := own_keep ox5_20 b21 (Nat.le_refl _)
  clear ox5_20
  have og6_21 := own_keep og6_20 b21 (Nat.le_refl _)
  clear og6_20
  have og19_21 := own_keep og19_20 b21 (Nat.le_refl _)
  clear og19_20
  go_wp2_with fail
  go_ret
  exact ⟨rfl, t21⟩
  
set_option maxRecDepth 100000 in
theorem lifted_AddWeights (os : Os) (started : os.Started) (H : Type) (enc : TypeId × Value → H) :
    ReturnsInHanded {} Try.checked os 7 .any (Rows.fnExactAddWeightsSpec.pre6 enc Try.prog Try.f7 Rows.fnExactAddWeightsRow.domain false) (Rows.fnExactAddWeightsSpec.post enc Try.prog Try.f7 false true false false) := by
  refine returnsInHanded_of_change (C := Try.checked) own_knob started (by kernel_rfl) Try.func7
    (ChangeSpec.witness6 (enc := enc) (C := Try.checked) false ⟨#[], #[.int .i64 0, .slice none 0 0, .slice none 0 0], []⟩ 8 (by kernel_rfl) (by kernel_rfl) (by kernel_rfl) (by kernel_rfl)) ?_
  intro W base args ds gs before hval0 hW _ _
  have hval : ∀ (j : Nat) t v, Try.f7.params[j]? = some t → args[j]? = some v → Value.okWide Try.prog W .any base t v := hval0
  have hW' := hW
  obtain ⟨p, q, hA0, hV, rfl, hfz, hnd⟩ := hW
  have hA : DataW.TrodAll enc Try.prog W 0 (fun _ => true) true Try.f7.params.toList args.toList ds p := hA0
  rw [Try.params7] at hA hval
  obtain ⟨v0, vs0, d0, ds0, p0, q0, hargs, rfl, rfl, h0, r0⟩ := trodAll_cons hA
  obtain ⟨v1, vs1, d1, ds1, p1, q1, rfl, rfl, rfl, h1, r1⟩ := trodAll_cons r0
  obtain ⟨v2, vs2, d2, ds2, p2, q2, rfl, rfl, rfl, h2, r2⟩ := trodAll_cons r1
  obtain ⟨rfl, rfl, rfl⟩ := trodAll_nil r2
  obtain rfl : args = #[v0, v1, v2] := by cases args; simp_all
  obtain ⟨rfl, rfl⟩ := trodVars_none hV
  have k0 := h0
  have lt0 : ∀ x ∈ p0, x.block < W.heap.size := by obtain ⟨m, hm⟩ := k0; exact DataW.trod_lt m _ _ _ hm
  have k1 := h1
  have lt1 : ∀ x ∈ p1, x.block < W.heap.size := by obtain ⟨m, hm⟩ := k1; exact DataW.trod_lt m _ _ _ hm
  have k2 := h2
  have lt2 : ∀ x ∈ p2, x.block < W.heap.size := by obtain ⟨m, hm⟩ := k2; exact DataW.trod_lt m _ _ _ hm
  obtain ⟨a0, rfl, rfl, rfl, wf0⟩ := open_int Try.underlying3 (hval 0 3 v0 rfl rfl) h0
  obtain ⟨a1, len1, cap1, rfl⟩ := okWide_slice Try.underlying22 (hval 1 22 v1 rfl rfl)
  obtain ⟨z1, R1⟩ := open_intS h1
  obtain ⟨a2, len2, cap2, rfl⟩ := okWide_slice Try.underlying22 (hval 2 22 v2 rfl rfl)
  obtain ⟨z2, R2⟩ := open_intS h2
  clear hA0 hval0
  refine (law_AddWeights W a0 wf0 a1 len1 cap1 z1 R1 a2 len2 cap2 z2 R2).mono fun e W' ⟨he, bel⟩ => ?_
  subst he
  exact ⟨_, rfl, _, _, _, [], _, [], hW', trodAll_mk1 (shut_bool Try.underlying4 _), (trodAll_cons_mk (Below.trod laid_out (by kernel_rfl) (of_decide_eq_true (by kernel_rfl)) k0 bel lt0) (trodAll_cons_mk (Below.trod laid_out (by kernel_rfl) (of_decide_eq_true (by kernel_rfl)) k1 bel lt1) (trodAll_cons_mk (Below.trod laid_out (by kernel_rfl) (of_decide_eq_true (by kernel_rfl)) k2 bel lt2) trodAll_mk0))), rfl, bel.frame _, fun h => by cases h⟩

theorem AddWeights_holds : Rows.FnExactAddWeightsSaid :=
  OpenClaim.holds_of_wide 7 Try.f7 rfl rfl rfl rfl rfl rfl rfl ⟨rfl, rfl, rfl, rfl, rfl⟩ rfl rfl rfl rfl rfl (by kernel_rfl) Try.func7 (by kernel_rfl)
    (of_decide_eq_true (by kernel_rfl)) (by unfold Func.isWrapper; first | (rw [if_pos (by decide +kernel)]; kernel_rfl) | (rw [if_neg (by decide +kernel)]; exact ⟨rfl, rfl⟩))
    (fun os started H enc _ => lifted_AddWeights os started H enc)

end Go.Proofs.Ytkklmpdinengnaa
