/- For every input the law FnReduce returns true and leaves its argument as it was. No condition. -/
import Derived.Test.YtidmbeeadbedaaaMg15
import Derived.Test.YtidmbeeadbedaaaRst
import Derived.Test.YtidmbeeadbedaaaCrI
namespace Go.Proofs.Ytidmbeeadbedaaa
open Go.ChangeShapes Go.WideShapes Go.ChangeAt Go.RowKit Go.Shelf

set_option maxRecDepth 100000 in
set_option maxHeartbeats 20000000 in
theorem law_FnReduce (w : World) (A0 : Option Addr) (n0 c0 : Nat) (zs : List Int) (R0 : Rd w A0 (u8c zs) ∧ n0 = zs.length ∧ n0 ≤ maxLen ∧ ∀ z ∈ zs, (Lit.int .u8 z).wf = true) :
    Calls Try.prog 5 #[.slice A0 n0 c0] w (Kept w (.bool true)) := by
  obtain ⟨hr, hn, hm0, hwf⟩ := R0
  have hz : ∀ z ∈ zs, 0 ≤ z ∧ z ≤ 255 := fun z h => byte_wf (hwf z h)
  unfold maxLen at hm0
  by_cases hb : n0 ≤ 1048576
  rotate_left
  · have hbi : (1048576 : Int) < (n0 : Int) := by omega
    go_enter Try.func5, Try.ntmps5
    go_wp2_with fail
    go_ret
    exact ⟨rfl, Below.refl _ _⟩
  have hMk : Calls Try.prog 29 #[.slice A0 n0 c0, .int .i64 0] w _ := makeSystem_any A0 n0 c0 zs 0 w hr hn hb hz (by omega)
  have hMw : ∀ (W : World) (L : Nat), Below w.heap.size w W → 1 ≤ L → L ≤ 4 → Calls Try.prog 22 #[.slice A0 n0 c0, .int .i64 40, .int .i64 (L : Int), .int .i64 8] W _ := fun W L h h1 h4 => makeWord_any A0 n0 c0 zs 40 L 8 W (hr.keep h) hn hb hz (by omega) h1 h4 (by omega)
  clear hr hn hz hwf hm0
  have HMk := Lib.hid hMk
  clear hMk
  have HMw := Lib.hid hMw
  clear hMw
  go_enter Try.func5, Try.ntmps5
  go_wp2_with fail
  with_reducible refine HMk.out.mono ?_
  rintro e w1 ⟨l, B, k, d, rs, hsy, hk, rfl, hO, b1⟩
  have hin := sys_in hsy
  obtain ⟨L, rfl⟩ : ∃ L : Nat, l = (L : Int) := ⟨l.toNat, by omega⟩
  have hkb : k ≤ 1048576 := by omega
  have hzs := sys_sizes (sys_rules hsy)
  have hro := sys_rules hsy
  have hS2 := SysSt.new (l := (L : Int)) hO b1
  have hL1 : 1 ≤ L := by omega
  have hL4 : L ≤ 4 := by omega
  clear hO HMk hin
  have Hk := Lib.hid hk
  clear hk
  have Hzs := Lib.hid hzs
  clear hzs
  have HS2 := Lib.hid hS2
  clear hS2
  have Hsy := Lib.hid hsy
  clear hsy
  have Hro := Lib.hid hro
  clear hro
  go_wp2_with fail
  obtain ⟨b0, hb0⟩ : ∃ b0, b0 = w1.heap.size := ⟨_, rfl⟩
  obtain ⟨w2, hw2⟩ : ∃ w2, w2 = w1.alloc (.cells #[.int .i64 (L : Int), .slice B k d] 25) := ⟨_, rfl⟩
  rw [← hb0, ← hw2] at HS2
  rw [← hw2]
  try rw [← hb0]
  clear b1
  have c0 : w2.cell? ⟨b0, 0, none⟩ = some (.int .i64 (L : Int)) := by rw [HS2.out.bk.cell]; rfl
  have c1 : w2.cell? ⟨b0, 1, none⟩ = some (.slice B k d) := by rw [HS2.out.bk.cell]; rfl
  have sl := HS2.out.bk.lt
  have Hw2 := Lib.hid hw2
  clear hw2
  have Hb0 := Lib.hid hb0
  clear hb0
  (try go_wp2_with fail)
  with_reducible refine (HMw.out _ L HS2.out.low hL1 hL4).mono ?_
  rintro e w3 ⟨s, hs8, hsL, rfl, bb⟩
  have hS3 := HS2.out.below bb
  clear c0 c1 sl
  clear HS2
  clear bb
  have c0 : w3.cell? ⟨b0, 0, none⟩ = some (.int .i64 (L : Int)) := by rw [hS3.bk.cell]; rfl
  have c1 : w3.cell? ⟨b0, 1, none⟩ = some (.slice B k d) := by rw [hS3.bk.cell]; rfl
  have sl := hS3.bk.lt
  have HS3 := Lib.hid hS3
  clear hS3
  have hw : wordOk (L : Int) s = true := wordOk_mk (by omega) (by omega) (by omega) hsL
  have hsb : s.size ≤ 1048576 := by omega
  have htk := takes_mk Hsy.out hw
  obtain ⟨x, hx⟩ : ∃ x, x = normS rs s := ⟨_, rfl⟩
  obtain ⟨y, hy⟩ : ∃ y, y = farS rs s := ⟨_, rfl⟩
  obtain ⟨tr, htr⟩ : ∃ tr, tr = traceS rs s := ⟨_, rfl⟩
  have e1 : nfS (L : Int) rs s = x := by rw [nfS, if_pos htk, hx]
  have e2 : ffS (L : Int) rs s = y := by rw [ffS, if_pos htk, hy]
  have e3 : trS (L : Int) rs s = tr := by rw [trS, if_pos htk, htr]
  have hxw := (norm_good Hsy.out hw).1
  have hyw := (far_good Hsy.out hw).1
  have hxs : x.size ≤ 1048576 := by rw [hx]; have := (wordOk_out hxw).2.2.1; omega
  have hys : y.size ≤ 1048576 := by rw [hy]; have := (wordOk_out hyw).2.2.1; omega
  have f1 := norm_reduced Hsy.out hw
  have f2 := far_reduced Hsy.out hw
  have f3 := norm_not_less Hsy.out hw
  have f4 := far_not_less Hsy.out hw
  have f5 := norm_same Hsy.out hw
  have f6 := @rstS_trace (L : Int) rs s Hsy.out hw
  have f7 := norm_steps Hsy.out hw
  have f8 := trace_some Hsy.out hw
  have f9 := @last_first rs s
  have f10 := crN_in Hsy.out hw hs8
  have f11 : tr.length ≤ 8589934592 := by rw [← e3]; exact trS_len _ _ _
  rw [← hx] at f1 f3 f5 f6 f7
  rw [← hy] at f2 f4
  rw [← htr] at f5 f6 f8
  clear hxw hyw hx hy htr hsL
  have E1 := Lib.hid e1
  clear e1
  have E2 := Lib.hid e2
  clear e2
  have E3 := Lib.hid e3
  clear e3
  have Htk := Lib.hid htk
  clear htk
  have F1 := Lib.hid f1
  clear f1
  have F2 := Lib.hid f2
  clear f2
  have F3 := Lib.hid f3
  clear f3
  have F4 := Lib.hid f4
  clear f4
  have F5 := Lib.hid f5
  clear f5
  have F6 := Lib.hid f6
  clear f6
  have F7 := Lib.hid f7
  clear f7
  have F8 := Lib.hid f8
  clear f8
  have F9 := Lib.hid f9
  clear f9
  have Hw := Lib.hid hw
  clear hw
  (try go_wp2_with fail)
  with_reducible refine (implNormalForm_any (L : Int) B k d rs s _ (HS3.out.rd) Hk.out hkb Hzs.out hsb).mono ?_
  rintro e w4 ⟨rfl, bb⟩
  have hS4 := HS3.out.below bb
  clear c0 c1 sl
  clear HS3
  clear bb
  have c0 : w4.cell? ⟨b0, 0, none⟩ = some (.int .i64 (L : Int)) := by rw [hS4.bk.cell]; rfl
  have c1 : w4.cell? ⟨b0, 1, none⟩ = some (.slice B k d) := by rw [hS4.bk.cell]; rfl
  have sl := hS4.bk.lt
  have HS4 := Lib.hid hS4
  clear hS4
  rw [E1.out, Htk.out]
  (try go_wp2_with fail)
  with_reducible refine (implFarForm_any (L : Int) B k d rs s _ (HS4.out.rd) Hk.out hkb Hzs.out hsb).mono ?_
  rintro e w5 ⟨rfl, bb⟩
  have hS5 := HS4.out.below bb
  clear c0 c1 sl
  clear HS4
  clear bb
  have c0 : w5.cell? ⟨b0, 0, none⟩ = some (.int .i64 (L : Int)) := by rw [hS5.bk.cell]; rfl
  have c1 : w5.cell? ⟨b0, 1, none⟩ = some (.slice B k d) := by rw [hS5.bk.cell]; rfl
  have sl := hS5.bk.lt
  have HS5 := Lib.hid hS5
  clear hS5
  rw [E2.out, Htk.out]
  (try go_wp2_with fail)
  with_reducible refine (implTraceOf_any (L : Int) B k d rs s _ (HS5.out.rd) Hk.out hkb Hzs.out hsb).mono ?_
  rintro e w6 ⟨C, cc, rfl, hOT, bb⟩
  have hS6 := HS5.out.below bb
  clear c0 c1 sl
  clear HS5
  clear bb
  have c0 : w6.cell? ⟨b0, 0, none⟩ = some (.int .i64 (L : Int)) := by rw [hS6.bk.cell]; rfl
  have c1 : w6.cell? ⟨b0, 1, none⟩ = some (.slice B k d) := by rw [hS6.bk.cell]; rfl
  have sl := hS6.bk.lt
  have HS6 := Lib.hid hS6
  clear hS6
  rw [E3.out] at hOT ⊢
  rw [Htk.out]
  obtain ⟨T, hT⟩ : ∃ T, T = tr.length := ⟨_, rfl⟩
  rw [← hT] at hOT f11 ⊢
  have hR4 := Rd.of_own hOT
  clear hOT
  have HR4 := Lib.hid hR4
  clear hR4
  have HT := Lib.hid hT
  clear hT
  by_cases hbig : 1000 < T
  · skip
    have hbi : (1000 : Int) < (T : Int) := by omega
    have hb0 : ((T : Int) == 0) = false := by simp; omega
    have hne : (x.toList == s.toList) = false := by
      rw [beq_eq_false_iff_ne]; intro e; have := F5.out.1 (ba_one e); rw [← HT.out] at this; omega
    (try go_wp2_with fail)
    with_reducible refine (implIsReduced_any (L : Int) B k d rs x _ (HS6.out.rd) Hk.out hkb Hzs.out hxs).mono ?_
    rintro e w7 ⟨rfl, bb⟩
    have hS7 := HS6.out.below bb
    clear c0 c1 sl
    clear HS6
    have HR_7 := Lib.hid (HR4.out.keep bb)
    clear HR4
    clear bb
    have c0 : w7.cell? ⟨b0, 0, none⟩ = some (.int .i64 (L : Int)) := by rw [hS7.bk.cell]; rfl
    have c1 : w7.cell? ⟨b0, 1, none⟩ = some (.slice B k d) := by rw [hS7.bk.cell]; rfl
    have sl := hS7.bk.lt
    have HS7 := Lib.hid hS7
    clear hS7
    rw [F1.out]
    (try go_wp2_with fail)
    with_reducible refine (implIsReduced_any (L : Int) B k d rs y _ (HS7.out.rd) Hk.out hkb Hzs.out hys).mono ?_
    rintro e w8 ⟨rfl, bb⟩
    have hS8 := HS7.out.below bb
    clear c0 c1 sl
    clear HS7
    have HR_8 := Lib.hid (HR_7.out.keep bb)
    clear HR_7
    clear bb
    have c0 : w8.cell? ⟨b0, 0, none⟩ = some (.int .i64 (L : Int)) := by rw [hS8.bk.cell]; rfl
    have c1 : w8.cell? ⟨b0, 1, none⟩ = some (.slice B k d) := by rw [hS8.bk.cell]; rfl
    have sl := hS8.bk.lt
    have HS8 := Lib.hid hS8
    clear hS8
    rw [F2.out]
    (try go_wp2_with fail)
    with_reducible refine (implLess_any s x _ (by omega) (by omega)).mono ?_
    rintro e w9 ⟨rfl, bb⟩
    have hS9 := HS8.out.below bb
    clear c0 c1 sl
    clear HS8
    have HR_9 := Lib.hid (HR_8.out.keep bb)
    clear HR_8
    clear bb
    have c0 : w9.cell? ⟨b0, 0, none⟩ = some (.int .i64 (L : Int)) := by rw [hS9.bk.cell]; rfl
    have c1 : w9.cell? ⟨b0, 1, none⟩ = some (.slice B k d) := by rw [hS9.bk.cell]; rfl
    have sl := hS9.bk.lt
    have HS9 := Lib.hid hS9
    clear hS9
    rw [F3.out]
    (try go_wp2_with fail)
    with_reducible refine (implLess_any s y _ (by omega) (by omega)).mono ?_
    rintro e w10 ⟨rfl, bb⟩
    have hS10 := HS9.out.below bb
    clear c0 c1 sl
    clear HS9
    have HR_10 := Lib.hid (HR_9.out.keep bb)
    clear HR_9
    clear bb
    have c0 : w10.cell? ⟨b0, 0, none⟩ = some (.int .i64 (L : Int)) := by rw [hS10.bk.cell]; rfl
    have c1 : w10.cell? ⟨b0, 1, none⟩ = some (.slice B k d) := by rw [hS10.bk.cell]; rfl
    have sl := hS10.bk.lt
    have HS10 := Lib.hid hS10
    clear hS10
    rw [F4.out]
    go_wp2_with fail
    go_ret
    exact ⟨rfl, HS10.out.low⟩
  have hbi : ¬ (1000 : Int) < (T : Int) := by omega
  have F6' := Lib.hid (F6.out (by rw [← HT.out]; omega))
  clear F6
  by_cases h0 : T = 0
  · skip
    have hxe : x = s := F5.out.2 (by rw [← HT.out]; exact h0)
    have hb0 : ((T : Int) == 0) = true := by simp; omega
    have hb1 : ¬ (0 : Int) < (T : Int) := by omega
    have hne : (x.toList == s.toList) = true := by rw [hxe]; simp
    have e8 : (firstS rs s).isSome = false := by rw [F8.out, ← HT.out]; simp; omega
    have e9 : (lastS rs s).isSome = false := by rw [F9.out, e8]
    clear F8 F9 F5 hxe h0
    have E8 := Lib.hid e8
    clear e8
    have E9 := Lib.hid e9
    clear e9
    (try go_wp2_with fail)
    with_reducible refine (implIsReduced_any (L : Int) B k d rs x _ (HS6.out.rd) Hk.out hkb Hzs.out hxs).mono ?_
    rintro e w7 ⟨rfl, bb⟩
    have hS7 := HS6.out.below bb
    clear c0 c1 sl
    clear HS6
    have HR_7 := Lib.hid (HR4.out.keep bb)
    clear HR4
    clear bb
    have c0 : w7.cell? ⟨b0, 0, none⟩ = some (.int .i64 (L : Int)) := by rw [hS7.bk.cell]; rfl
    have c1 : w7.cell? ⟨b0, 1, none⟩ = some (.slice B k d) := by rw [hS7.bk.cell]; rfl
    have sl := hS7.bk.lt
    have HS7 := Lib.hid hS7
    clear hS7
    rw [F1.out]
    (try go_wp2_with fail)
    with_reducible refine (implIsReduced_any (L : Int) B k d rs y _ (HS7.out.rd) Hk.out hkb Hzs.out hys).mono ?_
    rintro e w8 ⟨rfl, bb⟩
    have hS8 := HS7.out.below bb
    clear c0 c1 sl
    clear HS7
    have HR_8 := Lib.hid (HR_7.out.keep bb)
    clear HR_7
    clear bb
    have c0 : w8.cell? ⟨b0, 0, none⟩ = some (.int .i64 (L : Int)) := by rw [hS8.bk.cell]; rfl
    have c1 : w8.cell? ⟨b0, 1, none⟩ = some (.slice B k d) := by rw [hS8.bk.cell]; rfl
    have sl := hS8.bk.lt
    have HS8 := Lib.hid hS8
    clear hS8
    rw [F2.out]
    (try go_wp2_with fail)
    with_reducible refine (implLess_any s x _ (by omega) (by omega)).mono ?_
    rintro e w9 ⟨rfl, bb⟩
    have hS9 := HS8.out.below bb
    clear c0 c1 sl
    clear HS8
    have HR_9 := Lib.hid (HR_8.out.keep bb)
    clear HR_8
    clear bb
    have c0 : w9.cell? ⟨b0, 0, none⟩ = some (.int .i64 (L : Int)) := by rw [hS9.bk.cell]; rfl
    have c1 : w9.cell? ⟨b0, 1, none⟩ = some (.slice B k d) := by rw [hS9.bk.cell]; rfl
    have sl := hS9.bk.lt
    have HS9 := Lib.hid hS9
    clear hS9
    rw [F3.out]
    (try go_wp2_with fail)
    with_reducible refine (implLess_any s y _ (by omega) (by omega)).mono ?_
    rintro e w10 ⟨rfl, bb⟩
    have hS10 := HS9.out.below bb
    clear c0 c1 sl
    clear HS9
    have HR_10 := Lib.hid (HR_9.out.keep bb)
    clear HR_9
    clear bb
    have c0 : w10.cell? ⟨b0, 0, none⟩ = some (.int .i64 (L : Int)) := by rw [hS10.bk.cell]; rfl
    have c1 : w10.cell? ⟨b0, 1, none⟩ = some (.slice B k d) := by rw [hS10.bk.cell]; rfl
    have sl := hS10.bk.lt
    have HS10 := Lib.hid hS10
    clear hS10
    rw [F4.out]
    (try go_wp2_with fail)
    with_reducible refine (implRunSteps_any (L : Int) B k d rs s C T cc tr _ (HS10.out.rd) Hk.out hkb Hzs.out hsb HR_10.out HT.out (by omega)).mono ?_
    rintro e w11 ⟨rfl, bb⟩
    have hS11 := HS10.out.below bb
    clear c0 c1 sl
    clear HS10
    have HR_11 := Lib.hid (HR_10.out.keep bb)
    clear HR_10
    clear bb
    have c0 : w11.cell? ⟨b0, 0, none⟩ = some (.int .i64 (L : Int)) := by rw [hS11.bk.cell]; rfl
    have c1 : w11.cell? ⟨b0, 1, none⟩ = some (.slice B k d) := by rw [hS11.bk.cell]; rfl
    have sl := hS11.bk.lt
    have HS11 := Lib.hid hS11
    clear hS11
    rw [F6'.out]
    (try go_wp2_with fail)
    with_reducible refine (implFirstStep_any (L : Int) B k d rs s _ (HS11.out.rd) Hk.out hkb Hzs.out hsb Hro.out).mono ?_
    rintro e w12 ⟨rfl, bb⟩
    have hS12 := HS11.out.below bb
    clear c0 c1 sl
    clear HS11
    have HR_12 := Lib.hid (HR_11.out.keep bb)
    clear HR_11
    clear bb
    have c0 : w12.cell? ⟨b0, 0, none⟩ = some (.int .i64 (L : Int)) := by rw [hS12.bk.cell]; rfl
    have c1 : w12.cell? ⟨b0, 1, none⟩ = some (.slice B k d) := by rw [hS12.bk.cell]; rfl
    have sl := hS12.bk.lt
    have HS12 := Lib.hid hS12
    clear hS12
    rw [stepV_eq, E8.out]
    obtain ⟨x0, hx0⟩ : ∃ z, z = stepX (firstS rs s) := ⟨_, rfl⟩
    obtain ⟨y0, hy0⟩ : ∃ z, z = stepY (firstS rs s) := ⟨_, rfl⟩
    rw [← hx0, ← hy0]
    clear hx0 hy0
    have HS12a := Lib.hid (HS12.out.alloc (.cells #[.int .i64 x0, .int .i64 y0] 61))
    clear HS12
    have HR_12a := Lib.hid (HR_12.out.keep ((Below.refl _ _).alloc (Nat.le_refl _) (.cells #[.int .i64 x0, .int .i64 y0] 61)))
    clear HR_12
    (try go_wp2_with fail)
    with_reducible refine (implLastStep_any (L : Int) B k d rs s _ (HS12a.out.rd) Hk.out hkb Hzs.out hsb Hro.out).mono ?_
    rintro e w13 ⟨rfl, bb⟩
    have hS13 := HS12a.out.below bb
    clear c0 c1 sl
    clear HS12a
    have HR_13 := Lib.hid (HR_12a.out.keep bb)
    clear HR_12a
    clear bb
    have c0 : w13.cell? ⟨b0, 0, none⟩ = some (.int .i64 (L : Int)) := by rw [hS13.bk.cell]; rfl
    have c1 : w13.cell? ⟨b0, 1, none⟩ = some (.slice B k d) := by rw [hS13.bk.cell]; rfl
    have sl := hS13.bk.lt
    have HS13 := Lib.hid hS13
    clear hS13
    rw [stepV_eq, E9.out]
    obtain ⟨x1, hx1⟩ : ∃ z, z = stepX (lastS rs s) := ⟨_, rfl⟩
    obtain ⟨y1, hy1⟩ : ∃ z, z = stepY (lastS rs s) := ⟨_, rfl⟩
    rw [← hx1, ← hy1]
    clear hx1 hy1
    have HS13a := Lib.hid (HS13.out.alloc (.cells #[.int .i64 x1, .int .i64 y1] 61))
    clear HS13
    have HR_13a := Lib.hid (HR_13.out.keep ((Below.refl _ _).alloc (Nat.le_refl _) (.cells #[.int .i64 x1, .int .i64 y1] 61)))
    clear HR_13
    (try go_wp2_with fail)
    with_reducible refine (implCountReached_any (L : Int) B k d rs s _ (HS13a.out.rd) Hk.out hkb Hzs.out hsb).mono ?_
    rintro e w14 ⟨rfl, bb⟩
    have hS14 := HS13a.out.below bb
    clear c0 c1 sl
    clear HS13a
    have HR_14 := Lib.hid (HR_13a.out.keep bb)
    clear HR_13a
    clear bb
    have c0 : w14.cell? ⟨b0, 0, none⟩ = some (.int .i64 (L : Int)) := by rw [hS14.bk.cell]; rfl
    have c1 : w14.cell? ⟨b0, 1, none⟩ = some (.slice B k d) := by rw [hS14.bk.cell]; rfl
    have sl := hS14.bk.lt
    have HS14 := Lib.hid hS14
    clear hS14
    obtain ⟨cn, hcn⟩ : ∃ z, z = crN (L : Int) rs s := ⟨_, rfl⟩
    rw [← hcn] at f10 ⊢
    obtain ⟨f10a, f10b⟩ := f10
    clear hcn
    (try go_wp2_with fail)
    with_reducible refine (implStepsOf_any (L : Int) B k d rs x _ (HS14.out.rd) Hk.out hkb Hzs.out hxs).mono ?_
    rintro e w15 ⟨D, dc, rfl, -, bb⟩
    have hS15 := HS14.out.below bb
    clear c0 c1 sl
    clear HS14
    have HR_15 := Lib.hid (HR_14.out.keep bb)
    clear HR_14
    clear bb
    have c0 : w15.cell? ⟨b0, 0, none⟩ = some (.int .i64 (L : Int)) := by rw [hS15.bk.cell]; rfl
    have c1 : w15.cell? ⟨b0, 1, none⟩ = some (.slice B k d) := by rw [hS15.bk.cell]; rfl
    have sl := hS15.bk.lt
    have HS15 := Lib.hid hS15
    clear hS15
    rw [F7.out]
    go_wp2_with fail
    go_ret
    exact ⟨rfl, HS15.out.low⟩
  · skip
    have hb0 : ((T : Int) == 0) = false := by simp; omega
    have hb1 : (0 : Int) < (T : Int) := by omega
    have hne : (x.toList == s.toList) = false := by
      rw [beq_eq_false_iff_ne]; intro e; have := F5.out.1 (ba_one e); rw [← HT.out] at this; omega
    have e8 : (firstS rs s).isSome = true := by rw [F8.out, ← HT.out]; simp; omega
    have e9 : (lastS rs s).isSome = true := by rw [F9.out, e8]
    clear F8 F9 F5 h0
    have E8 := Lib.hid e8
    clear e8
    have E9 := Lib.hid e9
    clear e9
    (try go_wp2_with fail)
    with_reducible refine (implIsReduced_any (L : Int) B k d rs x _ (HS6.out.rd) Hk.out hkb Hzs.out hxs).mono ?_
    rintro e w7 ⟨rfl, bb⟩
    have hS7 := HS6.out.below bb
    clear c0 c1 sl
    clear HS6
    have HR_7 := Lib.hid (HR4.out.keep bb)
    clear HR4
    clear bb
    have c0 : w7.cell? ⟨b0, 0, none⟩ = some (.int .i64 (L : Int)) := by rw [hS7.bk.cell]; rfl
    have c1 : w7.cell? ⟨b0, 1, none⟩ = some (.slice B k d) := by rw [hS7.bk.cell]; rfl
    have sl := hS7.bk.lt
    have HS7 := Lib.hid hS7
    clear hS7
    rw [F1.out]
    (try go_wp2_with fail)
    with_reducible refine (implIsReduced_any (L : Int) B k d rs y _ (HS7.out.rd) Hk.out hkb Hzs.out hys).mono ?_
    rintro e w8 ⟨rfl, bb⟩
    have hS8 := HS7.out.below bb
    clear c0 c1 sl
    clear HS7
    have HR_8 := Lib.hid (HR_7.out.keep bb)
    clear HR_7
    clear bb
    have c0 : w8.cell? ⟨b0, 0, none⟩ = some (.int .i64 (L : Int)) := by rw [hS8.bk.cell]; rfl
    have c1 : w8.cell? ⟨b0, 1, none⟩ = some (.slice B k d) := by rw [hS8.bk.cell]; rfl
    have sl := hS8.bk.lt
    have HS8 := Lib.hid hS8
    clear hS8
    rw [F2.out]
    (try go_wp2_with fail)
    with_reducible refine (implLess_any s x _ (by omega) (by omega)).mono ?_
    rintro e w9 ⟨rfl, bb⟩
    have hS9 := HS8.out.below bb
    clear c0 c1 sl
    clear HS8
    have HR_9 := Lib.hid (HR_8.out.keep bb)
    clear HR_8
    clear bb
    have c0 : w9.cell? ⟨b0, 0, none⟩ = some (.int .i64 (L : Int)) := by rw [hS9.bk.cell]; rfl
    have c1 : w9.cell? ⟨b0, 1, none⟩ = some (.slice B k d) := by rw [hS9.bk.cell]; rfl
    have sl := hS9.bk.lt
    have HS9 := Lib.hid hS9
    clear hS9
    rw [F3.out]
    (try go_wp2_with fail)
    with_reducible refine (implLess_any s y _ (by omega) (by omega)).mono ?_
    rintro e w10 ⟨rfl, bb⟩
    have hS10 := HS9.out.below bb
    clear c0 c1 sl
    clear HS9
    have HR_10 := Lib.hid (HR_9.out.keep bb)
    clear HR_9
    clear bb
    have c0 : w10.cell? ⟨b0, 0, none⟩ = some (.int .i64 (L : Int)) := by rw [hS10.bk.cell]; rfl
    have c1 : w10.cell? ⟨b0, 1, none⟩ = some (.slice B k d) := by rw [hS10.bk.cell]; rfl
    have sl := hS10.bk.lt
    have HS10 := Lib.hid hS10
    clear hS10
    rw [F4.out]
    (try go_wp2_with fail)
    with_reducible refine (implRunSteps_any (L : Int) B k d rs s C T cc tr _ (HS10.out.rd) Hk.out hkb Hzs.out hsb HR_10.out HT.out (by omega)).mono ?_
    rintro e w11 ⟨rfl, bb⟩
    have hS11 := HS10.out.below bb
    clear c0 c1 sl
    clear HS10
    have HR_11 := Lib.hid (HR_10.out.keep bb)
    clear HR_10
    clear bb
    have c0 : w11.cell? ⟨b0, 0, none⟩ = some (.int .i64 (L : Int)) := by rw [hS11.bk.cell]; rfl
    have c1 : w11.cell? ⟨b0, 1, none⟩ = some (.slice B k d) := by rw [hS11.bk.cell]; rfl
    have sl := hS11.bk.lt
    have HS11 := Lib.hid hS11
    clear hS11
    rw [F6'.out]
    (try go_wp2_with fail)
    with_reducible refine (implFirstStep_any (L : Int) B k d rs s _ (HS11.out.rd) Hk.out hkb Hzs.out hsb Hro.out).mono ?_
    rintro e w12 ⟨rfl, bb⟩
    have hS12 := HS11.out.below bb
    clear c0 c1 sl
    clear HS11
    have HR_12 := Lib.hid (HR_11.out.keep bb)
    clear HR_11
    clear bb
    have c0 : w12.cell? ⟨b0, 0, none⟩ = some (.int .i64 (L : Int)) := by rw [hS12.bk.cell]; rfl
    have c1 : w12.cell? ⟨b0, 1, none⟩ = some (.slice B k d) := by rw [hS12.bk.cell]; rfl
    have sl := hS12.bk.lt
    have HS12 := Lib.hid hS12
    clear hS12
    rw [stepV_eq, E8.out]
    obtain ⟨x0, hx0⟩ : ∃ z, z = stepX (firstS rs s) := ⟨_, rfl⟩
    obtain ⟨y0, hy0⟩ : ∃ z, z = stepY (firstS rs s) := ⟨_, rfl⟩
    rw [← hx0, ← hy0]
    clear hx0 hy0
    have HS12a := Lib.hid (HS12.out.alloc (.cells #[.int .i64 x0, .int .i64 y0] 61))
    clear HS12
    have HR_12a := Lib.hid (HR_12.out.keep ((Below.refl _ _).alloc (Nat.le_refl _) (.cells #[.int .i64 x0, .int .i64 y0] 61)))
    clear HR_12
    (try go_wp2_with fail)
    with_reducible refine (implLastStep_any (L : Int) B k d rs s _ (HS12a.out.rd) Hk.out hkb Hzs.out hsb Hro.out).mono ?_
    rintro e w13 ⟨rfl, bb⟩
    have hS13 := HS12a.out.below bb
    clear c0 c1 sl
    clear HS12a
    have HR_13 := Lib.hid (HR_12a.out.keep bb)
    clear HR_12a
    clear bb
    have c0 : w13.cell? ⟨b0, 0, none⟩ = some (.int .i64 (L : Int)) := by rw [hS13.bk.cell]; rfl
    have c1 : w13.cell? ⟨b0, 1, none⟩ = some (.slice B k d) := by rw [hS13.bk.cell]; rfl
    have sl := hS13.bk.lt
    have HS13 := Lib.hid hS13
    clear hS13
    rw [stepV_eq, E9.out]
    obtain ⟨x1, hx1⟩ : ∃ z, z = stepX (lastS rs s) := ⟨_, rfl⟩
    obtain ⟨y1, hy1⟩ : ∃ z, z = stepY (lastS rs s) := ⟨_, rfl⟩
    rw [← hx1, ← hy1]
    clear hx1 hy1
    have HS13a := Lib.hid (HS13.out.alloc (.cells #[.int .i64 x1, .int .i64 y1] 61))
    clear HS13
    have HR_13a := Lib.hid (HR_13.out.keep ((Below.refl _ _).alloc (Nat.le_refl _) (.cells #[.int .i64 x1, .int .i64 y1] 61)))
    clear HR_13
    (try go_wp2_with fail)
    with_reducible refine (implCountReached_any (L : Int) B k d rs s _ (HS13a.out.rd) Hk.out hkb Hzs.out hsb).mono ?_
    rintro e w14 ⟨rfl, bb⟩
    have hS14 := HS13a.out.below bb
    clear c0 c1 sl
    clear HS13a
    have HR_14 := Lib.hid (HR_13a.out.keep bb)
    clear HR_13a
    clear bb
    have c0 : w14.cell? ⟨b0, 0, none⟩ = some (.int .i64 (L : Int)) := by rw [hS14.bk.cell]; rfl
    have c1 : w14.cell? ⟨b0, 1, none⟩ = some (.slice B k d) := by rw [hS14.bk.cell]; rfl
    have sl := hS14.bk.lt
    have HS14 := Lib.hid hS14
    clear hS14
    obtain ⟨cn, hcn⟩ : ∃ z, z = crN (L : Int) rs s := ⟨_, rfl⟩
    rw [← hcn] at f10 ⊢
    obtain ⟨f10a, f10b⟩ := f10
    clear hcn
    (try go_wp2_with fail)
    with_reducible refine (implStepsOf_any (L : Int) B k d rs x _ (HS14.out.rd) Hk.out hkb Hzs.out hxs).mono ?_
    rintro e w15 ⟨D, dc, rfl, -, bb⟩
    have hS15 := HS14.out.below bb
    clear c0 c1 sl
    clear HS14
    have HR_15 := Lib.hid (HR_14.out.keep bb)
    clear HR_14
    clear bb
    have c0 : w15.cell? ⟨b0, 0, none⟩ = some (.int .i64 (L : Int)) := by rw [hS15.bk.cell]; rfl
    have c1 : w15.cell? ⟨b0, 1, none⟩ = some (.slice B k d) := by rw [hS15.bk.cell]; rfl
    have sl := hS15.bk.lt
    have HS15 := Lib.hid hS15
    clear hS15
    rw [F7.out]
    go_wp2_with fail
    go_ret
    exact ⟨rfl, HS15.out.low⟩

set_option maxRecDepth 100000 in
theorem lifted_FnReduce (os : Os) (started : os.Started) (H : Type) (enc : TypeId × Value → H) :
    ReturnsInHanded {} Try.checked os 5 .any (Rows.fnReduceSpec.pre6 enc Try.prog Try.f5 Rows.fnReduceRow.domain false) (Rows.fnReduceSpec.post enc Try.prog Try.f5 false true false false) := by
  refine returnsInHanded_of_change (C := Try.checked) own_knob started (by kernel_rfl) Try.func5
    (ChangeSpec.witness6 (enc := enc) (C := Try.checked) false ⟨#[], #[.slice none 0 0], []⟩ 8 (by kernel_rfl) (by kernel_rfl) (by kernel_rfl) (by kernel_rfl)) ?_
  intro W base args ds gs before hval0 hW _ _
  have hval : ∀ (j : Nat) t v, Try.f5.params[j]? = some t → args[j]? = some v → Value.okWide Try.prog W .any base t v := hval0
  have hW' := hW
  obtain ⟨p, q, hA0, hV, rfl, hfz, hnd⟩ := hW
  have hA : DataW.TrodAll enc Try.prog W 0 (fun _ => true) true Try.f5.params.toList args.toList ds p := hA0
  rw [Try.params5] at hA hval
  obtain ⟨v0, vs0, d0, ds0, p0, q0, hargs, rfl, rfl, h0, r0⟩ := trodAll_cons hA
  obtain ⟨rfl, rfl, rfl⟩ := trodAll_nil r0
  obtain rfl : args = #[v0] := by cases args; simp_all
  obtain ⟨rfl, rfl⟩ := trodVars_none hV
  have k0 := h0
  have lt0 : ∀ x ∈ p0, x.block < W.heap.size := by obtain ⟨m, hm⟩ := k0; exact DataW.trod_lt m _ _ _ hm
  obtain ⟨a0, len0, cap0, rfl⟩ := okWide_slice Try.underlying22 (hval 0 22 v0 rfl rfl)
  obtain ⟨z0, R0⟩ := open_byteS h0
  clear hA0 hval0
  refine (law_FnReduce W a0 len0 cap0 z0 R0).mono fun e W' ⟨he, bel⟩ => ?_
  subst he
  exact ⟨_, rfl, _, _, _, [], _, [], hW', trodAll_mk1 (shut_bool Try.underlying4 _), (trodAll_cons_mk (Below.trod laid_out (by kernel_rfl) (of_decide_eq_true (by kernel_rfl)) k0 bel lt0) trodAll_mk0), rfl, bel.frame _, fun h => by cases h⟩

theorem FnReduce_holds : Rows.FnReduceSaid :=
  OpenClaim.holds_of_wide 5 Try.f5 rfl rfl rfl rfl rfl rfl rfl ⟨rfl, rfl, rfl, rfl, rfl⟩ rfl rfl rfl rfl rfl (by kernel_rfl) Try.func5 (by kernel_rfl)
    (of_decide_eq_true (by kernel_rfl)) (by unfold Func.isWrapper; first | (rw [if_pos (by decide +kernel)]; kernel_rfl) | (rw [if_neg (by decide +kernel)]; exact ⟨rfl, rfl⟩))
    (fun os started H enc _ => lifted_FnReduce os started H enc)

end Go.Proofs.Ytidmbeeadbedaaa
