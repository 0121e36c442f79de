/- For every input the law FnRuns returns true and leaves its argument as it was. No condition. -/
import Derived.Test.YtidmbeeadbedaaaMg13
import Derived.Test.YtidmbeeadbedaaaMkR
import Derived.Test.YtidmbeeadbedaaaRunP
import Derived.Test.YtidmbeeadbedaaaNorm
namespace Go.Proofs.Ytidmbeeadbedaaa
open Go.ChangeShapes Go.WideShapes Go.ChangeAt Go.RowKit Go.Shelf

set_option maxRecDepth 100000 in
set_option maxHeartbeats 40000000 in
theorem law_FnRuns (w : World) (A0 : Option Addr) (n0 c0 : Nat) (zs : List Int) (R0 : Rd w A0 (u8c zs) ∧ n0 = zs.length ∧ n0 ≤ maxLen ∧ ∀ z ∈ zs, (Lit.int .u8 z).wf = true) :
    Calls Try.prog 6 #[.slice A0 n0 c0] w (Kept w (.bool true)) := by
  obtain ⟨hr, hn, hm0, hwf⟩ := R0
  have hz : ∀ z ∈ zs, 0 ≤ z ∧ z ≤ 255 := fun z h => byte_wf (hwf z h)
  unfold maxLen at hm0
  by_cases hb : n0 ≤ 1048576
  rotate_left
  · have hbi : (1048576 : Int) < (n0 : Int) := by omega
    go_enter Try.func6, Try.ntmps6
    go_wp2_with fail
    go_ret
    exact ⟨rfl, Below.refl _ _⟩
  have hMk : Calls Try.prog 20 #[.slice A0 n0 c0, .int .i64 0] w _ := makeRules_any A0 n0 c0 zs 0 w hr hn hb hz (by omega)
  have hMw : ∀ (W : World), Below w.heap.size w W → Calls Try.prog 22 #[.slice A0 n0 c0, .int .i64 20, .int .i64 2, .int .i64 6] W _ := fun W h => makeWord_any A0 n0 c0 zs 20 2 6 W (hr.keep h) hn hb hz (by omega) (by omega) (by omega) (by omega)
  have hMa : ∀ (W : World), Below w.heap.size w W → Calls Try.prog 21 #[.slice A0 n0 c0, .int .i64 40] W _ := fun W h => makeNum_any A0 n0 c0 zs 40 W (hr.keep h) hn hb hz (by omega)
  have hMb : ∀ (W : World), Below w.heap.size w W → Calls Try.prog 21 #[.slice A0 n0 c0, .int .i64 42] W _ := fun W h => makeNum_any A0 n0 c0 zs 42 W (hr.keep h) hn hb hz (by omega)
  have hMo : ∀ (W : World), Below w.heap.size w W → Calls Try.prog 29 #[.slice A0 n0 c0, .int .i64 60] W _ := fun W h => makeSystem_any A0 n0 c0 zs 60 W (hr.keep h) hn hb hz (by omega)
  have hMv : ∀ (W : World) (L : Nat), Below w.heap.size w W → 1 ≤ L → L ≤ 4 → Calls Try.prog 22 #[.slice A0 n0 c0, .int .i64 80, .int .i64 (L : Int), .int .i64 5] W _ := fun W L h h1 h4 => makeWord_any A0 n0 c0 zs 80 L 5 W (hr.keep h) hn hb hz (by omega) h1 h4 (by omega)
  clear hr hn hz hwf hm0
  have HMk := Lib.hid hMk
  clear hMk
  have HMw := Lib.hid hMw
  clear hMw
  have HMa := Lib.hid hMa
  clear hMa
  have HMb := Lib.hid hMb
  clear hMb
  have HMo := Lib.hid hMo
  clear hMo
  have HMv := Lib.hid hMv
  clear hMv
  go_enter Try.func6, Try.ntmps6
  go_wp2_with fail
  with_reducible refine HMk.out.mono ?_
  rintro e w1 ⟨B, k, d, rs, hro, hk, rfl, hO, b1⟩
  have hkb : k ≤ 1048576 := by rw [hk]; have := rulesOk_12 hro; omega
  have hzs := sys_sizes hro
  have hrd := Rd.of_own hO
  clear hO HMk
  have Hk := Lib.hid hk
  clear hk
  have Hzs := Lib.hid hzs
  clear hzs
  have Hro := Lib.hid hro
  clear hro
  have Hrd := Lib.hid hrd
  clear hrd
  have B1 := Lib.hid b1
  clear b1
  have bb := (Below.refl w1.heap.size w1).alloc (Nat.le_refl _) (.cells #[.int .i64 2, .slice B k d] 25)
  have hNB := Bk.new w1 25 #[.int .i64 2, .slice B k d]
  go_wp2_with fail
  obtain ⟨b_s, hbn⟩ : ∃ z, z = w1.heap.size := ⟨_, rfl⟩
  obtain ⟨w2, hwn⟩ : ∃ z, z = w1.alloc (.cells #[.int .i64 2, .slice B k d] 25) := ⟨_, rfl⟩
  rw [← hwn] at bb
  rw [← hbn, ← hwn] at hNB
  rw [← hwn]
  try rw [← hbn]
  have HR_s_2 := Lib.hid (Hrd.out.keep bb)
  clear Hrd
  have HL_2 := Lib.hid (B1.out.trans (bb.mono B1.out.size))
  clear B1
  have HB_s_2 := Lib.hid hNB
  clear hNB bb
  have Hbn_s := Lib.hid hbn
  clear hbn hwn
  have c_s_0 : w2.cell? ⟨b_s, 0, none⟩ = some (.int .i64 2) := by rw [HB_s_2.out.cell]; rfl
  have c_s_1 : w2.cell? ⟨b_s, 1, none⟩ = some (.slice B k d) := by rw [HB_s_2.out.cell]; rfl
  have l_s := HB_s_2.out.lt
  (try go_wp2_with fail)
  with_reducible refine (HMw.out _ HL_2.out).mono ?_
  rintro e w3 ⟨s, hs6, hsL, rfl, bb⟩
  clear c_s_0 c_s_1 l_s
  have HB_s_3 := Lib.hid (HB_s_2.out.below bb HB_s_2.out.lt)
  clear HB_s_2
  have HR_s_3 := Lib.hid (HR_s_2.out.keep bb)
  clear HR_s_2
  have HL_3 := Lib.hid (HL_2.out.trans (bb.mono HL_2.out.size))
  clear HL_2
  clear bb
  have c_s_0 : w3.cell? ⟨b_s, 0, none⟩ = some (.int .i64 2) := by rw [HB_s_3.out.cell]; rfl
  have c_s_1 : w3.cell? ⟨b_s, 1, none⟩ = some (.slice B k d) := by rw [HB_s_3.out.cell]; rfl
  have l_s := HB_s_3.out.lt
  have hw : wordOk 2 s = true := wordOk_mk (by decide) (by decide) (by omega) hsL
  have hsb : s.size ≤ 1048576 := by omega
  clear hsL
  have Hw := Lib.hid hw
  clear hw
  (try go_wp2_with fail)
  with_reducible refine (HMa.out _ HL_3.out).mono ?_
  rintro e w4 ⟨x1, -, rfl, bb⟩
  clear c_s_0 c_s_1 l_s
  have HB_s_4 := Lib.hid (HB_s_3.out.below bb HB_s_3.out.lt)
  clear HB_s_3
  have HR_s_4 := Lib.hid (HR_s_3.out.keep bb)
  clear HR_s_3
  have HL_4 := Lib.hid (HL_3.out.trans (bb.mono HL_3.out.size))
  clear HL_3
  clear bb
  have c_s_0 : w4.cell? ⟨b_s, 0, none⟩ = some (.int .i64 2) := by rw [HB_s_4.out.cell]; rfl
  have c_s_1 : w4.cell? ⟨b_s, 1, none⟩ = some (.slice B k d) := by rw [HB_s_4.out.cell]; rfl
  have l_s := HB_s_4.out.lt
  have hmod_a : (x1 : Int).tmod 20 = ((x1 % 20 : Nat) : Int) := by rw [Int.tmod_eq_emod_of_nonneg (by omega)]; rfl
  have ha20 : x1 % 20 < 20 := Nat.mod_lt _ (by omega)
  obtain ⟨a, ha⟩ : ∃ z, z = x1 % 20 := ⟨_, rfl⟩
  rw [← ha] at hmod_a ha20
  clear ha
  (try go_wp2_with fail)
  with_reducible refine (HMb.out _ HL_4.out).mono ?_
  rintro e w5 ⟨x1, -, rfl, bb⟩
  clear c_s_0 c_s_1 l_s
  have HB_s_5 := Lib.hid (HB_s_4.out.below bb HB_s_4.out.lt)
  clear HB_s_4
  have HR_s_5 := Lib.hid (HR_s_4.out.keep bb)
  clear HR_s_4
  have HL_5 := Lib.hid (HL_4.out.trans (bb.mono HL_4.out.size))
  clear HL_4
  clear bb
  have c_s_0 : w5.cell? ⟨b_s, 0, none⟩ = some (.int .i64 2) := by rw [HB_s_5.out.cell]; rfl
  have c_s_1 : w5.cell? ⟨b_s, 1, none⟩ = some (.slice B k d) := by rw [HB_s_5.out.cell]; rfl
  have l_s := HB_s_5.out.lt
  have hmod_b : (x1 : Int).tmod 20 = ((x1 % 20 : Nat) : Int) := by rw [Int.tmod_eq_emod_of_nonneg (by omega)]; rfl
  have hb20 : x1 % 20 < 20 := Nat.mod_lt _ (by omega)
  obtain ⟨b, hb⟩ : ∃ z, z = x1 % 20 := ⟨_, rfl⟩
  rw [← hb] at hmod_b hb20
  clear hb
  have hab : (a : Int) + (b : Int) ≤ 500 := by omega
  (try go_wp2_with fail)
  with_reducible refine (implRunFirst_any 2 B k d rs s (a : Int) _ HR_s_5.out Hk.out hkb Hzs.out hsb).mono ?_
  rintro e w6 ⟨rfl, bb⟩
  clear c_s_0 c_s_1 l_s
  have HB_s_6 := Lib.hid (HB_s_5.out.below bb HB_s_5.out.lt)
  clear HB_s_5
  have HR_s_6 := Lib.hid (HR_s_5.out.keep bb)
  clear HR_s_5
  have HL_6 := Lib.hid (HL_5.out.trans (bb.mono HL_5.out.size))
  clear HL_5
  clear bb
  have c_s_0 : w6.cell? ⟨b_s, 0, none⟩ = some (.int .i64 2) := by rw [HB_s_6.out.cell]; rfl
  have c_s_1 : w6.cell? ⟨b_s, 1, none⟩ = some (.slice B k d) := by rw [HB_s_6.out.cell]; rfl
  have l_s := HB_s_6.out.lt
  obtain ⟨⟨xw, xn, xc⟩, hx⟩ : ∃ z, z = runAll false 2 rs s (a : Int) := ⟨_, rfl⟩
  rw [← hx]
  have e_x : runV (xw, xn, xc) = .agg #[.string xw, .int .i64 xn, .int .i64 xc] := rfl
  rw [e_x]
  clear e_x
  obtain ⟨p1, p2, p3, p4, p5⟩ := wor_last (m := a) Hro.out Hw.out (by omega)
  have p6 := @run_stop rs 2 s a b Hro.out Hw.out (by omega)
  have p7 := @run_on rs 2 s a b Hro.out Hw.out (by omega)
  have p8 := run_word (m := a) Hro.out Hw.out (by omega)
  rw [← hx] at p1 p2 p3 p4 p5 p6 p7 p8
  dsimp only at p1 p2 p3 p4 p5 p6 p7 p8
  have hxb : xw.size ≤ 1048576 := by have := (wordOk_out p8).2.2.1; omega
  obtain ⟨N, rfl⟩ : ∃ N : Nat, xn = (N : Int) := ⟨xn.toNat, by omega⟩
  rw [Int.toNat_natCast] at p2
  clear hx
  have P1 := Lib.hid p1
  clear p1
  have P2 := Lib.hid p2
  clear p2
  have P6 := Lib.hid p6
  clear p6
  have P7 := Lib.hid p7
  clear p7
  have P8 := Lib.hid p8
  clear p8
  have bb := (Below.refl w6.heap.size w6).alloc (Nat.le_refl _) (.cells #[.string xw, .int .i64 (N : Int), .int .i64 xc] 67)
  have hNB := Bk.new w6 67 #[.string xw, .int .i64 (N : Int), .int .i64 xc]
  go_wp2_with fail
  obtain ⟨b_x, hbn⟩ : ∃ z, z = w6.heap.size := ⟨_, rfl⟩
  obtain ⟨w7, hwn⟩ : ∃ z, z = w6.alloc (.cells #[.string xw, .int .i64 (N : Int), .int .i64 xc] 67) := ⟨_, rfl⟩
  rw [← hwn] at bb
  rw [← hbn, ← hwn] at hNB
  rw [← hwn]
  try rw [← hbn]
  clear c_s_0 c_s_1 l_s
  have HB_s_7 := Lib.hid (HB_s_6.out.below bb HB_s_6.out.lt)
  clear HB_s_6
  have HR_s_7 := Lib.hid (HR_s_6.out.keep bb)
  clear HR_s_6
  have HL_7 := Lib.hid (HL_6.out.trans (bb.mono HL_6.out.size))
  clear HL_6
  have HB_x_7 := Lib.hid hNB
  clear hNB bb
  have Hbn_x := Lib.hid hbn
  clear hbn hwn
  have c_s_0 : w7.cell? ⟨b_s, 0, none⟩ = some (.int .i64 2) := by rw [HB_s_7.out.cell]; rfl
  have c_s_1 : w7.cell? ⟨b_s, 1, none⟩ = some (.slice B k d) := by rw [HB_s_7.out.cell]; rfl
  have l_s := HB_s_7.out.lt
  have c_x_0 : w7.cell? ⟨b_x, 0, none⟩ = some (.string xw) := by rw [HB_x_7.out.cell]; rfl
  have c_x_1 : w7.cell? ⟨b_x, 1, none⟩ = some (.int .i64 (N : Int)) := by rw [HB_x_7.out.cell]; rfl
  have c_x_2 : w7.cell? ⟨b_x, 2, none⟩ = some (.int .i64 xc) := by rw [HB_x_7.out.cell]; rfl
  have l_x := HB_x_7.out.lt
  (try go_wp2_with fail)
  with_reducible refine (implRunFirst_any 2 B k d rs s ((a : Int) + (b : Int)) _ HR_s_7.out Hk.out hkb Hzs.out hsb).mono ?_
  rintro e w8 ⟨rfl, bb⟩
  clear c_s_0 c_s_1 l_s c_x_0 c_x_1 c_x_2 l_x
  have HB_s_8 := Lib.hid (HB_s_7.out.below bb HB_s_7.out.lt)
  clear HB_s_7
  have HB_x_8 := Lib.hid (HB_x_7.out.below bb HB_x_7.out.lt)
  clear HB_x_7
  have HR_s_8 := Lib.hid (HR_s_7.out.keep bb)
  clear HR_s_7
  have HL_8 := Lib.hid (HL_7.out.trans (bb.mono HL_7.out.size))
  clear HL_7
  clear bb
  have c_s_0 : w8.cell? ⟨b_s, 0, none⟩ = some (.int .i64 2) := by rw [HB_s_8.out.cell]; rfl
  have c_s_1 : w8.cell? ⟨b_s, 1, none⟩ = some (.slice B k d) := by rw [HB_s_8.out.cell]; rfl
  have l_s := HB_s_8.out.lt
  have c_x_0 : w8.cell? ⟨b_x, 0, none⟩ = some (.string xw) := by rw [HB_x_8.out.cell]; rfl
  have c_x_1 : w8.cell? ⟨b_x, 1, none⟩ = some (.int .i64 (N : Int)) := by rw [HB_x_8.out.cell]; rfl
  have c_x_2 : w8.cell? ⟨b_x, 2, none⟩ = some (.int .i64 xc) := by rw [HB_x_8.out.cell]; rfl
  have l_x := HB_x_8.out.lt
  obtain ⟨⟨yw, yn, yc⟩, hy⟩ : ∃ z, z = runAll false 2 rs s ((a : Int) + (b : Int)) := ⟨_, rfl⟩
  rw [← hy]
  have e_y : runV (yw, yn, yc) = .agg #[.string yw, .int .i64 yn, .int .i64 yc] := rfl
  rw [e_y]
  clear e_y
  have q6 := P6.out
  have q7 := P7.out
  rw [← hy] at q6 q7
  clear hy P6 P7
  dsimp only at q6 q7
  have Q6 := Lib.hid q6
  clear q6
  have Q7 := Lib.hid q7
  clear q7
  have bb := (Below.refl w8.heap.size w8).alloc (Nat.le_refl _) (.cells #[.string yw, .int .i64 yn, .int .i64 yc] 67)
  have hNB := Bk.new w8 67 #[.string yw, .int .i64 yn, .int .i64 yc]
  go_wp2_with fail
  obtain ⟨b_y, hbn⟩ : ∃ z, z = w8.heap.size := ⟨_, rfl⟩
  obtain ⟨w9, hwn⟩ : ∃ z, z = w8.alloc (.cells #[.string yw, .int .i64 yn, .int .i64 yc] 67) := ⟨_, rfl⟩
  rw [← hwn] at bb
  rw [← hbn, ← hwn] at hNB
  rw [← hwn]
  try rw [← hbn]
  clear c_s_0 c_s_1 l_s c_x_0 c_x_1 c_x_2 l_x
  have HB_s_9 := Lib.hid (HB_s_8.out.below bb HB_s_8.out.lt)
  clear HB_s_8
  have HB_x_9 := Lib.hid (HB_x_8.out.below bb HB_x_8.out.lt)
  clear HB_x_8
  have HR_s_9 := Lib.hid (HR_s_8.out.keep bb)
  clear HR_s_8
  have HL_9 := Lib.hid (HL_8.out.trans (bb.mono HL_8.out.size))
  clear HL_8
  have HB_y_9 := Lib.hid hNB
  clear hNB bb
  have Hbn_y := Lib.hid hbn
  clear hbn hwn
  have c_s_0 : w9.cell? ⟨b_s, 0, none⟩ = some (.int .i64 2) := by rw [HB_s_9.out.cell]; rfl
  have c_s_1 : w9.cell? ⟨b_s, 1, none⟩ = some (.slice B k d) := by rw [HB_s_9.out.cell]; rfl
  have l_s := HB_s_9.out.lt
  have c_x_0 : w9.cell? ⟨b_x, 0, none⟩ = some (.string xw) := by rw [HB_x_9.out.cell]; rfl
  have c_x_1 : w9.cell? ⟨b_x, 1, none⟩ = some (.int .i64 (N : Int)) := by rw [HB_x_9.out.cell]; rfl
  have c_x_2 : w9.cell? ⟨b_x, 2, none⟩ = some (.int .i64 xc) := by rw [HB_x_9.out.cell]; rfl
  have l_x := HB_x_9.out.lt
  have c_y_0 : w9.cell? ⟨b_y, 0, none⟩ = some (.string yw) := by rw [HB_y_9.out.cell]; rfl
  have c_y_1 : w9.cell? ⟨b_y, 1, none⟩ = some (.int .i64 yn) := by rw [HB_y_9.out.cell]; rfl
  have c_y_2 : w9.cell? ⟨b_y, 2, none⟩ = some (.int .i64 yc) := by rw [HB_y_9.out.cell]; rfl
  have l_y := HB_y_9.out.lt
  (try go_wp2_with fail)
  with_reducible refine (implWordsOnRun_any 2 B k d rs s (a : Int) _ HR_s_9.out Hk.out hkb Hzs.out hsb).mono ?_
  rintro e w10 ⟨C, cc, rfl, hOw, bb⟩
  clear c_s_0 c_s_1 l_s c_x_0 c_x_1 c_x_2 l_x c_y_0 c_y_1 c_y_2 l_y
  have HB_s_10 := Lib.hid (HB_s_9.out.below bb HB_s_9.out.lt)
  clear HB_s_9
  have HB_x_10 := Lib.hid (HB_x_9.out.below bb HB_x_9.out.lt)
  clear HB_x_9
  have HB_y_10 := Lib.hid (HB_y_9.out.below bb HB_y_9.out.lt)
  clear HB_y_9
  have HR_s_10 := Lib.hid (HR_s_9.out.keep bb)
  clear HR_s_9
  have HL_10 := Lib.hid (HL_9.out.trans (bb.mono HL_9.out.size))
  clear HL_9
  clear bb
  have c_s_0 : w10.cell? ⟨b_s, 0, none⟩ = some (.int .i64 2) := by rw [HB_s_10.out.cell]; rfl
  have c_s_1 : w10.cell? ⟨b_s, 1, none⟩ = some (.slice B k d) := by rw [HB_s_10.out.cell]; rfl
  have l_s := HB_s_10.out.lt
  have c_x_0 : w10.cell? ⟨b_x, 0, none⟩ = some (.string xw) := by rw [HB_x_10.out.cell]; rfl
  have c_x_1 : w10.cell? ⟨b_x, 1, none⟩ = some (.int .i64 (N : Int)) := by rw [HB_x_10.out.cell]; rfl
  have c_x_2 : w10.cell? ⟨b_x, 2, none⟩ = some (.int .i64 xc) := by rw [HB_x_10.out.cell]; rfl
  have l_x := HB_x_10.out.lt
  have c_y_0 : w10.cell? ⟨b_y, 0, none⟩ = some (.string yw) := by rw [HB_y_10.out.cell]; rfl
  have c_y_1 : w10.cell? ⟨b_y, 1, none⟩ = some (.int .i64 yn) := by rw [HB_y_10.out.cell]; rfl
  have c_y_2 : w10.cell? ⟨b_y, 2, none⟩ = some (.int .i64 yc) := by rw [HB_y_10.out.cell]; rfl
  have l_y := HB_y_10.out.lt
  have hT : (worL 2 rs s (a : Int)).length = N + 1 := by have := P1.out; omega
  rw [hT] at hOw ⊢
  have hRl := Rd.of_own hOw
  obtain ⟨bl, off, rfl, hbl, pl⟩ := rd_Str hRl (k := N) (by rw [hT]; omega)
  have pe : (worL 2 rs s (a : Int))[N]'(by rw [hT]; omega) = xw := by
    have := P2.out
    rw [List.getElem?_eq_getElem (by rw [hT]; omega)] at this
    injection this
  rw [pe] at pl
  clear pe hRl hOw hT P1 P2
  by_cases h3 : xc = 3
  · skip
    have hwr1 : IntKind.i64.wrap ((N : Int) + 1) = (N : Int) + 1 := IntWalk.i64_in _ ⟨by omega, by omega⟩
    have hwr2 : IntKind.i64.wrap (N : Int) = (N : Int) := IntWalk.i64_in _ ⟨by omega, by omega⟩
    have hwr3 : (N : Int) < (N : Int) + 1 := by omega
    subst h3
    obtain ⟨r1, r2, r3, r4, r5⟩ := Q7.out rfl
    clear Q6 Q7
    go_wp2_with fail
    refine wp_region_held_drew (S := (fun W => W.cell? ⟨b_x, 0, none⟩ = some (.string xw) ∧ W.cell? ⟨b_x, 1, none⟩ = some (.int .i64 (N : Int)) ∧ W.cell? ⟨b_x, 2, none⟩ = some (.int .i64 3) ∧ W.cell? ⟨bl, off + N, none⟩ = some (.string xw))) (by kernel_rfl) ((by exact ⟨c_x_0, c_x_1, c_x_2, pl⟩)) (fun hHeld => ?_)
    refine wpAnyH_take (i := 0) (oi := ?oi316) (v := ?val316) ?hi316 ?hs316 ?hf316 ?hr316 ?hQ316 ?hy316 ?hS316 ?hrest316
    case hi316 => (simp only [List.getElem?_toArray, List.getElem?_cons_succ, List.getElem?_cons_zero] <;> exact rfl)
    case hs316 => kernel_rfl
    case hf316 => kernel_rfl
    case hr316 => kernel_rfl
    case hQ316 => exact fun _ _ _ h => h
    case hS316 => assumption
    case hy316 => (refine Or.inl ⟨by rfl, ?_⟩; intro w hSw; (try dsimp only at hSw); obtain ⟨z0, z1, z2, z3⟩ := hSw; go_simp; try with_reducible rfl)
    simp only [Act.put, List.setIfInBounds_toArray, List.set_cons_zero, List.set_cons_succ]
    refine wpAnyH_take (i := 1) (oi := ?oi325) (v := ?val325) ?hi325 ?hs325 ?hf325 ?hr325 ?hQ325 ?hy325 ?hS325 ?hrest325
    case hi325 => (simp only [List.getElem?_toArray, List.getElem?_cons_succ, List.getElem?_cons_zero] <;> exact rfl)
    case hs325 => kernel_rfl
    case hf325 => kernel_rfl
    case hr325 => kernel_rfl
    case hQ325 => exact fun _ _ _ h => h
    case hS325 => assumption
    case hy325 => (refine Or.inl ⟨by rfl, ?_⟩; intro w hSw; (try dsimp only at hSw); obtain ⟨z0, z1, z2, z3⟩ := hSw; go_simp; try with_reducible rfl)
    simp only [Act.put, List.setIfInBounds_toArray, List.set_cons_zero, List.set_cons_succ]
    refine wpAnyH_take (i := 2) (oi := ?oi334) (v := ?val334) ?hi334 ?hs334 ?hf334 ?hr334 ?hQ334 ?hy334 ?hS334 ?hrest334
    case hi334 => (simp only [List.getElem?_toArray, List.getElem?_cons_succ, List.getElem?_cons_zero] <;> exact rfl)
    case hs334 => kernel_rfl
    case hf334 => kernel_rfl
    case hr334 => kernel_rfl
    case hQ334 => exact fun _ _ _ h => h
    case hS334 => assumption
    case hy334 => (refine Or.inl ⟨by rfl, ?_⟩; intro w hSw; (try dsimp only at hSw); obtain ⟨z0, z1, z2, z3⟩ := hSw; go_simp; try with_reducible rfl)
    simp only [Act.put, List.setIfInBounds_toArray, List.set_cons_zero, List.set_cons_succ]
    refine wpAnyH_take (i := 3) (oi := ?oi343) (v := ?val343) ?hi343 ?hs343 ?hf343 ?hr343 ?hQ343 ?hy343 ?hS343 ?hrest343
    case hi343 => (simp only [List.getElem?_toArray, List.getElem?_cons_succ, List.getElem?_cons_zero] <;> exact rfl)
    case hs343 => kernel_rfl
    case hf343 => kernel_rfl
    case hr343 => kernel_rfl
    case hQ343 => exact fun _ _ _ h => h
    case hS343 => assumption
    case hy343 => (refine Or.inl ⟨by rfl, ?_⟩; intro w hSw; (try dsimp only at hSw); obtain ⟨z0, z1, z2, z3⟩ := hSw; go_simp; try with_reducible rfl)
    simp only [Act.put, List.setIfInBounds_toArray, List.set_cons_zero, List.set_cons_succ]
    refine wpAnyH_take (i := 4) (oi := ?oi352) (v := ?val352) ?hi352 ?hs352 ?hf352 ?hr352 ?hQ352 ?hy352 ?hS352 ?hrest352
    case hi352 => (simp only [List.getElem?_toArray, List.getElem?_cons_succ, List.getElem?_cons_zero] <;> exact rfl)
    case hs352 => kernel_rfl
    case hf352 => kernel_rfl
    case hr352 => kernel_rfl
    case hQ352 => exact fun _ _ _ h => h
    case hS352 => assumption
    case hy352 => (refine Or.inl ⟨by rfl, ?_⟩; intro w hSw; (try dsimp only at hSw); obtain ⟨z0, z1, z2, z3⟩ := hSw; go_simp; try with_reducible rfl)
    simp only [Act.put, List.setIfInBounds_toArray, List.set_cons_zero, List.set_cons_succ]
    refine wpAnyH_take (i := 5) (oi := ?oi361) (v := ?val361) ?hi361 ?hs361 ?hf361 ?hr361 ?hQ361 ?hy361 ?hS361 ?hrest361
    case hi361 => (simp only [List.getElem?_toArray, List.getElem?_cons_succ, List.getElem?_cons_zero] <;> exact rfl)
    case hs361 => kernel_rfl
    case hf361 => kernel_rfl
    case hr361 => kernel_rfl
    case hQ361 => exact fun _ _ _ h => h
    case hS361 => assumption
    case hy361 => (refine Or.inl ⟨by rfl, ?_⟩; intro w hSw; (try dsimp only at hSw); obtain ⟨z0, z1, z2, z3⟩ := hSw; go_simp; try with_reducible rfl)
    simp only [Act.put, List.setIfInBounds_toArray, List.set_cons_zero, List.set_cons_succ]
    refine wpAnyH_take (i := 6) (oi := ?oi370) (v := ?val370) ?hi370 ?hs370 ?hf370 ?hr370 ?hQ370 ?hy370 ?hS370 ?hrest370
    case hi370 => (simp only [List.getElem?_toArray, List.getElem?_cons_succ, List.getElem?_cons_zero] <;> exact rfl)
    case hs370 => kernel_rfl
    case hf370 => kernel_rfl
    case hr370 => kernel_rfl
    case hQ370 => exact fun _ _ _ h => h
    case hS370 => assumption
    case hy370 => (refine Or.inl ⟨by rfl, ?_⟩; intro w hSw; (try dsimp only at hSw); obtain ⟨z0, z1, z2, z3⟩ := hSw; go_simp; try with_reducible rfl)
    simp only [Act.put, List.setIfInBounds_toArray, List.set_cons_zero, List.set_cons_succ]
    refine wpAnyH_take (i := 7) (oi := ?oi379) (v := ?val379) ?hi379 ?hs379 ?hf379 ?hr379 ?hQ379 ?hy379 ?hS379 ?hrest379
    case hi379 => (simp only [List.getElem?_toArray, List.getElem?_cons_succ, List.getElem?_cons_zero] <;> exact rfl)
    case hs379 => kernel_rfl
    case hf379 => kernel_rfl
    case hr379 => kernel_rfl
    case hQ379 => exact fun _ _ _ h => h
    case hS379 => assumption
    case hy379 => (refine Or.inl ⟨by rfl, ?_⟩; intro w hSw; (try dsimp only at hSw); obtain ⟨z0, z1, z2, z3⟩ := hSw; go_simp; try with_reducible rfl)
    simp only [Act.put, List.setIfInBounds_toArray, List.set_cons_zero, List.set_cons_succ]
    refine wpAnyH_take (i := 8) (oi := ?oi388) (v := ?val388) ?hi388 ?hs388 ?hf388 ?hr388 ?hQ388 ?hy388 ?hS388 ?hrest388
    case hi388 => (simp only [List.getElem?_toArray, List.getElem?_cons_succ, List.getElem?_cons_zero] <;> exact rfl)
    case hs388 => kernel_rfl
    case hf388 => kernel_rfl
    case hr388 => kernel_rfl
    case hQ388 => exact fun _ _ _ h => h
    case hS388 => assumption
    case hy388 => (refine Or.inl ⟨by rfl, ?_⟩; intro w hSw; (try dsimp only at hSw); obtain ⟨z0, z1, z2, z3⟩ := hSw; go_simp; try with_reducible rfl)
    simp only [Act.put, List.setIfInBounds_toArray, List.set_cons_zero, List.set_cons_succ]
    refine wpAnyH_take (i := 9) (oi := ?oi397) (v := ?val397) ?hi397 ?hs397 ?hf397 ?hr397 ?hQ397 ?hy397 ?hS397 ?hrest397
    case hi397 => (simp only [List.getElem?_toArray, List.getElem?_cons_succ, List.getElem?_cons_zero] <;> exact rfl)
    case hs397 => kernel_rfl
    case hf397 => kernel_rfl
    case hr397 => kernel_rfl
    case hQ397 => exact fun _ _ _ h => h
    case hS397 => assumption
    case hy397 => (refine Or.inl ⟨by rfl, ?_⟩; intro w hSw; (try dsimp only at hSw); obtain ⟨z0, z1, z2, z3⟩ := hSw; go_simp; try with_reducible rfl)
    simp only [Act.put, List.setIfInBounds_toArray, List.set_cons_zero, List.set_cons_succ]
    refine wpAnyH_take (i := 10) (oi := ?oi406) (v := ?val406) ?hi406 ?hs406 ?hf406 ?hr406 ?hQ406 ?hy406 ?hS406 ?hrest406
    case hi406 => (simp only [List.getElem?_toArray, List.getElem?_cons_succ, List.getElem?_cons_zero] <;> exact rfl)
    case hs406 => kernel_rfl
    case hf406 => kernel_rfl
    case hr406 => kernel_rfl
    case hQ406 => exact fun _ _ _ h => h
    case hS406 => assumption
    case hy406 => (refine Or.inl ⟨by rfl, ?_⟩; intro w hSw; (try dsimp only at hSw); obtain ⟨z0, z1, z2, z3⟩ := hSw; go_simp; try with_reducible rfl)
    simp only [Act.put, List.setIfInBounds_toArray, List.set_cons_zero, List.set_cons_succ]
    refine wpAnyH_take (i := 11) (oi := ?oi415) (v := ?val415) ?hi415 ?hs415 ?hf415 ?hr415 ?hQ415 ?hy415 ?hS415 ?hrest415
    case hi415 => (simp only [List.getElem?_toArray, List.getElem?_cons_succ, List.getElem?_cons_zero] <;> exact rfl)
    case hs415 => kernel_rfl
    case hf415 => kernel_rfl
    case hr415 => kernel_rfl
    case hQ415 => exact fun _ _ _ h => h
    case hS415 => assumption
    case hy415 => (refine Or.inl ⟨by rfl, ?_⟩; intro w hSw; (try dsimp only at hSw); obtain ⟨z0, z1, z2, z3⟩ := hSw; go_simp; try with_reducible rfl)
    simp only [Act.put, List.setIfInBounds_toArray, List.set_cons_zero, List.set_cons_succ]
    refine wpAnyH_take (i := 12) (oi := ?oi424) (v := ?val424) ?hi424 ?hs424 ?hf424 ?hr424 ?hQ424 ?hy424 ?hS424 ?hrest424
    case hi424 => (simp only [List.getElem?_toArray, List.getElem?_cons_succ, List.getElem?_cons_zero] <;> exact rfl)
    case hs424 => kernel_rfl
    case hf424 => kernel_rfl
    case hr424 => kernel_rfl
    case hQ424 => exact fun _ _ _ h => h
    case hS424 => assumption
    case hy424 => (refine Or.inl ⟨by rfl, ?_⟩; intro w hSw; (try dsimp only at hSw); obtain ⟨z0, z1, z2, z3⟩ := hSw; go_simp; try with_reducible rfl)
    simp only [Act.put, List.setIfInBounds_toArray, List.set_cons_zero, List.set_cons_succ]
    refine wpAnyH_take (i := 13) (oi := ?oi433) (v := ?val433) ?hi433 ?hs433 ?hf433 ?hr433 ?hQ433 ?hy433 ?hS433 ?hrest433
    case hi433 => (simp only [List.getElem?_toArray, List.getElem?_cons_succ, List.getElem?_cons_zero] <;> exact rfl)
    case hs433 => kernel_rfl
    case hf433 => kernel_rfl
    case hr433 => kernel_rfl
    case hQ433 => exact fun _ _ _ h => h
    case hS433 => assumption
    case hy433 => (refine Or.inl ⟨by rfl, ?_⟩; intro w hSw; (try dsimp only at hSw); obtain ⟨z0, z1, z2, z3⟩ := hSw; go_simp; try with_reducible rfl)
    simp only [Act.put, List.setIfInBounds_toArray, List.set_cons_zero, List.set_cons_succ]
    refine wpAnyH_take (i := 14) (oi := ?oi442) (v := ?val442) ?hi442 ?hs442 ?hf442 ?hr442 ?hQ442 ?hy442 ?hS442 ?hrest442
    case hi442 => (simp only [List.getElem?_toArray, List.getElem?_cons_succ, List.getElem?_cons_zero] <;> exact rfl)
    case hs442 => kernel_rfl
    case hf442 => kernel_rfl
    case hr442 => kernel_rfl
    case hQ442 => exact fun _ _ _ h => h
    case hS442 => assumption
    case hy442 => (refine Or.inl ⟨by rfl, ?_⟩; intro w hSw; (try dsimp only at hSw); obtain ⟨z0, z1, z2, z3⟩ := hSw; go_simp; try with_reducible rfl)
    simp only [Act.put, List.setIfInBounds_toArray, List.set_cons_zero, List.set_cons_succ]
    refine wpAnyH_take (i := 15) (oi := ?oi451) (v := ?val451) ?hi451 ?hs451 ?hf451 ?hr451 ?hQ451 ?hy451 ?hS451 ?hrest451
    case hi451 => (simp only [List.getElem?_toArray, List.getElem?_cons_succ, List.getElem?_cons_zero] <;> exact rfl)
    case hs451 => kernel_rfl
    case hf451 => kernel_rfl
    case hr451 => kernel_rfl
    case hQ451 => exact fun _ _ _ h => h
    case hS451 => assumption
    case hy451 => (refine Or.inl ⟨by rfl, ?_⟩; intro w hSw; (try dsimp only at hSw); obtain ⟨z0, z1, z2, z3⟩ := hSw; go_simp; try with_reducible rfl)
    simp only [Act.put, List.setIfInBounds_toArray, List.set_cons_zero, List.set_cons_succ]
    refine wpAnyH_take (i := 16) (oi := ?oi460) (v := ?val460) ?hi460 ?hs460 ?hf460 ?hr460 ?hQ460 ?hy460 ?hS460 ?hrest460
    case hi460 => (simp only [List.getElem?_toArray, List.getElem?_cons_succ, List.getElem?_cons_zero] <;> exact rfl)
    case hs460 => kernel_rfl
    case hf460 => kernel_rfl
    case hr460 => kernel_rfl
    case hQ460 => exact fun _ _ _ h => h
    case hS460 => assumption
    case hy460 => (refine Or.inl ⟨by rfl, ?_⟩; intro w hSw; (try dsimp only at hSw); obtain ⟨z0, z1, z2, z3⟩ := hSw; go_simp; try with_reducible rfl)
    simp only [Act.put, List.setIfInBounds_toArray, List.set_cons_zero, List.set_cons_succ]
    refine wpAnyH_take (i := 17) (oi := ?oi469) (v := ?val469) ?hi469 ?hs469 ?hf469 ?hr469 ?hQ469 ?hy469 ?hS469 ?hrest469
    case hi469 => (simp only [List.getElem?_toArray, List.getElem?_cons_succ, List.getElem?_cons_zero] <;> exact rfl)
    case hs469 => kernel_rfl
    case hf469 => kernel_rfl
    case hr469 => kernel_rfl
    case hQ469 => exact fun _ _ _ h => h
    case hS469 => assumption
    case hy469 => (refine Or.inl ⟨by rfl, ?_⟩; intro w hSw; (try dsimp only at hSw); obtain ⟨z0, z1, z2, z3⟩ := hSw; go_simp; try with_reducible rfl)
    simp only [Act.put, List.setIfInBounds_toArray, List.set_cons_zero, List.set_cons_succ]
    refine wpAnyH_take (i := 18) (oi := ?oi478) (v := ?val478) ?hi478 ?hs478 ?hf478 ?hr478 ?hQ478 ?hy478 ?hS478 ?hrest478
    case hi478 => (simp only [List.getElem?_toArray, List.getElem?_cons_succ, List.getElem?_cons_zero] <;> exact rfl)
    case hs478 => kernel_rfl
    case hf478 => kernel_rfl
    case hr478 => kernel_rfl
    case hQ478 => exact fun _ _ _ h => h
    case hS478 => assumption
    case hy478 => (refine Or.inl ⟨by rfl, ?_⟩; intro w hSw; (try dsimp only at hSw); obtain ⟨z0, z1, z2, z3⟩ := hSw; go_simp; try with_reducible rfl)
    simp only [Act.put, List.setIfInBounds_toArray, List.set_cons_zero, List.set_cons_succ]
    refine wpAnyH_take (i := 19) (oi := ?oi487) (v := ?val487) ?hi487 ?hs487 ?hf487 ?hr487 ?hQ487 ?hy487 ?hS487 ?hrest487
    case hi487 => (simp only [List.getElem?_toArray, List.getElem?_cons_succ, List.getElem?_cons_zero] <;> exact rfl)
    case hs487 => kernel_rfl
    case hf487 => kernel_rfl
    case hr487 => kernel_rfl
    case hQ487 => exact fun _ _ _ h => h
    case hS487 => assumption
    case hy487 => (refine Or.inl ⟨by rfl, ?_⟩; intro w hSw; (try dsimp only at hSw); obtain ⟨z0, z1, z2, z3⟩ := hSw; go_simp; try with_reducible rfl)
    simp only [Act.put, List.setIfInBounds_toArray, List.set_cons_zero, List.set_cons_succ]
    refine wpAnyH_take (i := 20) (oi := ?oi496) (v := ?val496) ?hi496 ?hs496 ?hf496 ?hr496 ?hQ496 ?hy496 ?hS496 ?hrest496
    case hi496 => (simp only [List.getElem?_toArray, List.getElem?_cons_succ, List.getElem?_cons_zero] <;> exact rfl)
    case hs496 => kernel_rfl
    case hf496 => kernel_rfl
    case hr496 => kernel_rfl
    case hQ496 => exact fun _ _ _ h => h
    case hS496 => assumption
    case hy496 => (refine Or.inl ⟨by rfl, ?_⟩; intro w hSw; (try dsimp only at hSw); obtain ⟨z0, z1, z2, z3⟩ := hSw; go_simp; try with_reducible rfl)
    simp only [Act.put, List.setIfInBounds_toArray, List.set_cons_zero, List.set_cons_succ]
    refine wpAnyH_take (i := 21) (oi := ?oi505) (v := ?val505) ?hi505 ?hs505 ?hf505 ?hr505 ?hQ505 ?hy505 ?hS505 ?hrest505
    case hi505 => (simp only [List.getElem?_toArray, List.getElem?_cons_succ, List.getElem?_cons_zero] <;> exact rfl)
    case hs505 => kernel_rfl
    case hf505 => kernel_rfl
    case hr505 => kernel_rfl
    case hQ505 => exact fun _ _ _ h => h
    case hS505 => assumption
    case hy505 => (refine Or.inl ⟨by rfl, ?_⟩; intro w hSw; (try dsimp only at hSw); obtain ⟨z0, z1, z2, z3⟩ := hSw; go_simp; try with_reducible rfl)
    simp only [Act.put, List.setIfInBounds_toArray, List.set_cons_zero, List.set_cons_succ]
    refine wpAnyH_take (i := 22) (oi := ?oi514) (v := ?val514) ?hi514 ?hs514 ?hf514 ?hr514 ?hQ514 ?hy514 ?hS514 ?hrest514
    case hi514 => (simp only [List.getElem?_toArray, List.getElem?_cons_succ, List.getElem?_cons_zero] <;> exact rfl)
    case hs514 => kernel_rfl
    case hf514 => kernel_rfl
    case hr514 => kernel_rfl
    case hQ514 => exact fun _ _ _ h => h
    case hS514 => assumption
    case hy514 => (refine Or.inl ⟨by rfl, ?_⟩; intro w hSw; (try dsimp only at hSw); obtain ⟨z0, z1, z2, z3⟩ := hSw; go_simp; try with_reducible rfl)
    simp only [Act.put, List.setIfInBounds_toArray, List.set_cons_zero, List.set_cons_succ]
    refine wpAnyH_take (i := 23) (oi := ?oi523) (v := ?val523) ?hi523 ?hs523 ?hf523 ?hr523 ?hQ523 ?hy523 ?hS523 ?hrest523
    case hi523 => (simp only [List.getElem?_toArray, List.getElem?_cons_succ, List.getElem?_cons_zero] <;> exact rfl)
    case hs523 => kernel_rfl
    case hf523 => kernel_rfl
    case hr523 => kernel_rfl
    case hQ523 => exact fun _ _ _ h => h
    case hS523 => assumption
    case hy523 => (refine Or.inl ⟨by rfl, ?_⟩; intro w hSw; (try dsimp only at hSw); obtain ⟨z0, z1, z2, z3⟩ := hSw; go_simp; try with_reducible rfl)
    simp only [Act.put, List.setIfInBounds_toArray, List.set_cons_zero, List.set_cons_succ]
    refine wpAnyH_take (i := 24) (oi := ?oi532) (v := ?val532) ?hi532 ?hs532 ?hf532 ?hr532 ?hQ532 ?hy532 ?hS532 ?hrest532
    case hi532 => (simp only [List.getElem?_toArray, List.getElem?_cons_succ, List.getElem?_cons_zero] <;> exact rfl)
    case hs532 => kernel_rfl
    case hf532 => kernel_rfl
    case hr532 => kernel_rfl
    case hQ532 => exact fun _ _ _ h => h
    case hS532 => assumption
    case hy532 => (refine Or.inl ⟨by rfl, ?_⟩; intro w hSw; (try dsimp only at hSw); obtain ⟨z0, z1, z2, z3⟩ := hSw; go_simp; try with_reducible rfl)
    simp only [Act.put, List.setIfInBounds_toArray, List.set_cons_zero, List.set_cons_succ]
    refine wpAnyH_take (i := 25) (oi := ?oi541) (v := ?val541) ?hi541 ?hs541 ?hf541 ?hr541 ?hQ541 ?hy541 ?hS541 ?hrest541
    case hi541 => (simp only [List.getElem?_toArray, List.getElem?_cons_succ, List.getElem?_cons_zero] <;> exact rfl)
    case hs541 => kernel_rfl
    case hf541 => kernel_rfl
    case hr541 => kernel_rfl
    case hQ541 => exact fun _ _ _ h => h
    case hS541 => assumption
    case hy541 => (refine Or.inl ⟨by rfl, ?_⟩; intro w hSw; (try dsimp only at hSw); obtain ⟨z0, z1, z2, z3⟩ := hSw; go_simp; try with_reducible rfl)
    simp only [Act.put, List.setIfInBounds_toArray, List.set_cons_zero, List.set_cons_succ]
    refine wpAnyH_take (i := 26) (oi := ?oi550) (v := ?val550) ?hi550 ?hs550 ?hf550 ?hr550 ?hQ550 ?hy550 ?hS550 ?hrest550
    case hi550 => (simp only [List.getElem?_toArray, List.getElem?_cons_succ, List.getElem?_cons_zero] <;> exact rfl)
    case hs550 => kernel_rfl
    case hf550 => kernel_rfl
    case hr550 => kernel_rfl
    case hQ550 => exact fun _ _ _ h => h
    case hS550 => assumption
    case hy550 => (refine Or.inl ⟨by rfl, ?_⟩; intro w hSw; (try dsimp only at hSw); obtain ⟨z0, z1, z2, z3⟩ := hSw; go_simp; try with_reducible rfl)
    simp only [Act.put, List.setIfInBounds_toArray, List.set_cons_zero, List.set_cons_succ]
    refine wpAnyH_take (i := 27) (oi := ?oi559) (v := undef) ?hi559 ?hs559 ?hf559 ?hr559 ?hQ559 ?hy559 ?hS559 ?hrest559
    case hi559 => (simp only [List.getElem?_toArray, List.getElem?_cons_succ, List.getElem?_cons_zero] <;> exact rfl)
    case hs559 => kernel_rfl
    case hf559 => kernel_rfl
    case hr559 => kernel_rfl
    case hQ559 => exact fun _ _ _ h => h
    case hS559 => assumption
    case hy559 => exact Or.inr ⟨by rfl, rfl⟩
    simp only [Act.put, List.setIfInBounds_toArray, List.set_cons_zero, List.set_cons_succ]
    refine wpAnyH_take (i := 28) (oi := ?oi568) (v := undef) ?hi568 ?hs568 ?hf568 ?hr568 ?hQ568 ?hy568 ?hS568 ?hrest568
    case hi568 => (simp only [List.getElem?_toArray, List.getElem?_cons_succ, List.getElem?_cons_zero] <;> exact rfl)
    case hs568 => kernel_rfl
    case hf568 => kernel_rfl
    case hr568 => kernel_rfl
    case hQ568 => exact fun _ _ _ h => h
    case hS568 => assumption
    case hy568 => exact Or.inr ⟨by rfl, rfl⟩
    simp only [Act.put, List.setIfInBounds_toArray, List.set_cons_zero, List.set_cons_succ]
    refine wpAnyH_take (i := 29) (oi := ?oi577) (v := undef) ?hi577 ?hs577 ?hf577 ?hr577 ?hQ577 ?hy577 ?hS577 ?hrest577
    case hi577 => (simp only [List.getElem?_toArray, List.getElem?_cons_succ, List.getElem?_cons_zero] <;> exact rfl)
    case hs577 => kernel_rfl
    case hf577 => kernel_rfl
    case hr577 => kernel_rfl
    case hQ577 => exact fun _ _ _ h => h
    case hS577 => assumption
    case hy577 => exact Or.inr ⟨by rfl, rfl⟩
    simp only [Act.put, List.setIfInBounds_toArray, List.set_cons_zero, List.set_cons_succ]
    refine wpAnyH_take (i := 30) (oi := ?oi586) (v := ?val586) ?hi586 ?hs586 ?hf586 ?hr586 ?hQ586 ?hy586 ?hS586 ?hrest586
    case hi586 => (simp only [List.getElem?_toArray, List.getElem?_cons_succ, List.getElem?_cons_zero] <;> exact rfl)
    case hs586 => kernel_rfl
    case hf586 => kernel_rfl
    case hr586 => kernel_rfl
    case hQ586 => exact fun _ _ _ h => h
    case hS586 => assumption
    case hy586 => (refine Or.inl ⟨by rfl, ?_⟩; intro w hSw; (try dsimp only at hSw); obtain ⟨z0, z1, z2, z3⟩ := hSw; go_simp; try with_reducible rfl)
    simp only [Act.put, List.setIfInBounds_toArray, List.set_cons_zero, List.set_cons_succ]
    refine wpAnyH_take (i := 31) (oi := ?oi595) (v := ?val595) ?hi595 ?hs595 ?hf595 ?hr595 ?hQ595 ?hy595 ?hS595 ?hrest595
    case hi595 => (simp only [List.getElem?_toArray, List.getElem?_cons_succ, List.getElem?_cons_zero] <;> exact rfl)
    case hs595 => kernel_rfl
    case hf595 => kernel_rfl
    case hr595 => kernel_rfl
    case hQ595 => exact fun _ _ _ h => h
    case hS595 => assumption
    case hy595 => (refine Or.inl ⟨by rfl, ?_⟩; intro w hSw; (try dsimp only at hSw); obtain ⟨z0, z1, z2, z3⟩ := hSw; go_simp; try with_reducible rfl)
    simp only [Act.put, List.setIfInBounds_toArray, List.set_cons_zero, List.set_cons_succ]
    refine wpAnyH_done (by kernel_rfl) ?_ _
    clear hHeld hwr1 hwr2 hwr3
    obtain ⟨w11, hwn⟩ : ∃ z, z = w10.drew := ⟨_, rfl⟩
    have bb := (Below.refl w10.heap.size w10).drew
    rw [← hwn] at bb
    rw [← hwn]
    clear c_s_0 c_s_1 l_s c_x_0 c_x_1 c_x_2 l_x c_y_0 c_y_1 c_y_2 l_y
    have HB_s_11 := Lib.hid (HB_s_10.out.below bb HB_s_10.out.lt)
    clear HB_s_10
    have HB_x_11 := Lib.hid (HB_x_10.out.below bb HB_x_10.out.lt)
    clear HB_x_10
    have HB_y_11 := Lib.hid (HB_y_10.out.below bb HB_y_10.out.lt)
    clear HB_y_10
    have HR_s_11 := Lib.hid (HR_s_10.out.keep bb)
    clear HR_s_10
    have HL_11 := Lib.hid (HL_10.out.trans (bb.mono HL_10.out.size))
    clear HL_10
    clear bb hwn
    have c_s_0 : w11.cell? ⟨b_s, 0, none⟩ = some (.int .i64 2) := by rw [HB_s_11.out.cell]; rfl
    have c_s_1 : w11.cell? ⟨b_s, 1, none⟩ = some (.slice B k d) := by rw [HB_s_11.out.cell]; rfl
    have l_s := HB_s_11.out.lt
    have c_x_0 : w11.cell? ⟨b_x, 0, none⟩ = some (.string xw) := by rw [HB_x_11.out.cell]; rfl
    have c_x_1 : w11.cell? ⟨b_x, 1, none⟩ = some (.int .i64 (N : Int)) := by rw [HB_x_11.out.cell]; rfl
    have c_x_2 : w11.cell? ⟨b_x, 2, none⟩ = some (.int .i64 3) := by rw [HB_x_11.out.cell]; rfl
    have l_x := HB_x_11.out.lt
    have c_y_0 : w11.cell? ⟨b_y, 0, none⟩ = some (.string yw) := by rw [HB_y_11.out.cell]; rfl
    have c_y_1 : w11.cell? ⟨b_y, 1, none⟩ = some (.int .i64 yn) := by rw [HB_y_11.out.cell]; rfl
    have c_y_2 : w11.cell? ⟨b_y, 2, none⟩ = some (.int .i64 yc) := by rw [HB_y_11.out.cell]; rfl
    have l_y := HB_y_11.out.lt
    (try go_wp2_with fail)
    with_reducible refine (implRunFirst_any 2 B k d rs xw (b : Int) _ HR_s_11.out Hk.out hkb Hzs.out hxb).mono ?_
    rintro e w12 ⟨rfl, bb⟩
    clear c_s_0 c_s_1 l_s c_x_0 c_x_1 c_x_2 l_x c_y_0 c_y_1 c_y_2 l_y
    have HB_s_12 := Lib.hid (HB_s_11.out.below bb HB_s_11.out.lt)
    clear HB_s_11
    have HB_x_12 := Lib.hid (HB_x_11.out.below bb HB_x_11.out.lt)
    clear HB_x_11
    have HB_y_12 := Lib.hid (HB_y_11.out.below bb HB_y_11.out.lt)
    clear HB_y_11
    have HR_s_12 := Lib.hid (HR_s_11.out.keep bb)
    clear HR_s_11
    have HL_12 := Lib.hid (HL_11.out.trans (bb.mono HL_11.out.size))
    clear HL_11
    clear bb
    have c_s_0 : w12.cell? ⟨b_s, 0, none⟩ = some (.int .i64 2) := by rw [HB_s_12.out.cell]; rfl
    have c_s_1 : w12.cell? ⟨b_s, 1, none⟩ = some (.slice B k d) := by rw [HB_s_12.out.cell]; rfl
    have l_s := HB_s_12.out.lt
    have c_x_0 : w12.cell? ⟨b_x, 0, none⟩ = some (.string xw) := by rw [HB_x_12.out.cell]; rfl
    have c_x_1 : w12.cell? ⟨b_x, 1, none⟩ = some (.int .i64 (N : Int)) := by rw [HB_x_12.out.cell]; rfl
    have c_x_2 : w12.cell? ⟨b_x, 2, none⟩ = some (.int .i64 3) := by rw [HB_x_12.out.cell]; rfl
    have l_x := HB_x_12.out.lt
    have c_y_0 : w12.cell? ⟨b_y, 0, none⟩ = some (.string yw) := by rw [HB_y_12.out.cell]; rfl
    have c_y_1 : w12.cell? ⟨b_y, 1, none⟩ = some (.int .i64 yn) := by rw [HB_y_12.out.cell]; rfl
    have c_y_2 : w12.cell? ⟨b_y, 2, none⟩ = some (.int .i64 yc) := by rw [HB_y_12.out.cell]; rfl
    have l_y := HB_y_12.out.lt
    obtain ⟨⟨zw, zn, zc⟩, hz⟩ : ∃ z, z = runAll false 2 rs xw (b : Int) := ⟨_, rfl⟩
    rw [← hz]
    have e_z : runV (zw, zn, zc) = .agg #[.string zw, .int .i64 zn, .int .i64 zc] := rfl
    rw [e_z]
    clear e_z
    rw [← hz] at r1 r2 r3 r4 r5
    dsimp only at r1 r2 r3 r4 r5
    subst r1 r2 r3
    clear hz
    have hwr : IntKind.i64.wrap (zn + (a : Int)) = zn + (a : Int) := IntWalk.i64_in _ ⟨by omega, by omega⟩
    have bb := (Below.refl w12.heap.size w12).alloc (Nat.le_refl _) (.cells #[.string zw, .int .i64 zn, .int .i64 zc] 67)
    have hNB := Bk.new w12 67 #[.string zw, .int .i64 zn, .int .i64 zc]
    go_wp2_with fail
    obtain ⟨b_z, hbn⟩ : ∃ z, z = w12.heap.size := ⟨_, rfl⟩
    obtain ⟨w13, hwn⟩ : ∃ z, z = w12.alloc (.cells #[.string zw, .int .i64 zn, .int .i64 zc] 67) := ⟨_, rfl⟩
    rw [← hwn] at bb
    rw [← hbn, ← hwn] at hNB
    rw [← hwn]
    try rw [← hbn]
    clear c_s_0 c_s_1 l_s c_x_0 c_x_1 c_x_2 l_x c_y_0 c_y_1 c_y_2 l_y
    have HB_s_13 := Lib.hid (HB_s_12.out.below bb HB_s_12.out.lt)
    clear HB_s_12
    have HB_x_13 := Lib.hid (HB_x_12.out.below bb HB_x_12.out.lt)
    clear HB_x_12
    have HB_y_13 := Lib.hid (HB_y_12.out.below bb HB_y_12.out.lt)
    clear HB_y_12
    have HR_s_13 := Lib.hid (HR_s_12.out.keep bb)
    clear HR_s_12
    have HL_13 := Lib.hid (HL_12.out.trans (bb.mono HL_12.out.size))
    clear HL_12
    have HB_z_13 := Lib.hid hNB
    clear hNB bb
    have Hbn_z := Lib.hid hbn
    clear hbn hwn
    have c_s_0 : w13.cell? ⟨b_s, 0, none⟩ = some (.int .i64 2) := by rw [HB_s_13.out.cell]; rfl
    have c_s_1 : w13.cell? ⟨b_s, 1, none⟩ = some (.slice B k d) := by rw [HB_s_13.out.cell]; rfl
    have l_s := HB_s_13.out.lt
    have c_x_0 : w13.cell? ⟨b_x, 0, none⟩ = some (.string xw) := by rw [HB_x_13.out.cell]; rfl
    have c_x_1 : w13.cell? ⟨b_x, 1, none⟩ = some (.int .i64 (N : Int)) := by rw [HB_x_13.out.cell]; rfl
    have c_x_2 : w13.cell? ⟨b_x, 2, none⟩ = some (.int .i64 3) := by rw [HB_x_13.out.cell]; rfl
    have l_x := HB_x_13.out.lt
    have c_y_0 : w13.cell? ⟨b_y, 0, none⟩ = some (.string zw) := by rw [HB_y_13.out.cell]; rfl
    have c_y_1 : w13.cell? ⟨b_y, 1, none⟩ = some (.int .i64 (zn + (a : Int))) := by rw [HB_y_13.out.cell]; rfl
    have c_y_2 : w13.cell? ⟨b_y, 2, none⟩ = some (.int .i64 zc) := by rw [HB_y_13.out.cell]; rfl
    have l_y := HB_y_13.out.lt
    have c_z_0 : w13.cell? ⟨b_z, 0, none⟩ = some (.string zw) := by rw [HB_z_13.out.cell]; rfl
    have c_z_1 : w13.cell? ⟨b_z, 1, none⟩ = some (.int .i64 zn) := by rw [HB_z_13.out.cell]; rfl
    have c_z_2 : w13.cell? ⟨b_z, 2, none⟩ = some (.int .i64 zc) := by rw [HB_z_13.out.cell]; rfl
    have l_z := HB_z_13.out.lt
    (try go_wp2_with fail)
    with_reducible refine (implRunLoop_any 2 B k d rs s _ HR_s_13.out Hk.out hkb Hzs.out hsb).mono ?_
    rintro e w14 ⟨rfl, bb⟩
    clear c_s_0 c_s_1 l_s c_x_0 c_x_1 c_x_2 l_x c_y_0 c_y_1 c_y_2 l_y c_z_0 c_z_1 c_z_2 l_z
    have HB_s_14 := Lib.hid (HB_s_13.out.below bb HB_s_13.out.lt)
    clear HB_s_13
    have HB_x_14 := Lib.hid (HB_x_13.out.below bb HB_x_13.out.lt)
    clear HB_x_13
    have HB_y_14 := Lib.hid (HB_y_13.out.below bb HB_y_13.out.lt)
    clear HB_y_13
    have HB_z_14 := Lib.hid (HB_z_13.out.below bb HB_z_13.out.lt)
    clear HB_z_13
    have HR_s_14 := Lib.hid (HR_s_13.out.keep bb)
    clear HR_s_13
    have HL_14 := Lib.hid (HL_13.out.trans (bb.mono HL_13.out.size))
    clear HL_13
    clear bb
    have c_s_0 : w14.cell? ⟨b_s, 0, none⟩ = some (.int .i64 2) := by rw [HB_s_14.out.cell]; rfl
    have c_s_1 : w14.cell? ⟨b_s, 1, none⟩ = some (.slice B k d) := by rw [HB_s_14.out.cell]; rfl
    have l_s := HB_s_14.out.lt
    have c_x_0 : w14.cell? ⟨b_x, 0, none⟩ = some (.string xw) := by rw [HB_x_14.out.cell]; rfl
    have c_x_1 : w14.cell? ⟨b_x, 1, none⟩ = some (.int .i64 (N : Int)) := by rw [HB_x_14.out.cell]; rfl
    have c_x_2 : w14.cell? ⟨b_x, 2, none⟩ = some (.int .i64 3) := by rw [HB_x_14.out.cell]; rfl
    have l_x := HB_x_14.out.lt
    have c_y_0 : w14.cell? ⟨b_y, 0, none⟩ = some (.string zw) := by rw [HB_y_14.out.cell]; rfl
    have c_y_1 : w14.cell? ⟨b_y, 1, none⟩ = some (.int .i64 (zn + (a : Int))) := by rw [HB_y_14.out.cell]; rfl
    have c_y_2 : w14.cell? ⟨b_y, 2, none⟩ = some (.int .i64 zc) := by rw [HB_y_14.out.cell]; rfl
    have l_y := HB_y_14.out.lt
    have c_z_0 : w14.cell? ⟨b_z, 0, none⟩ = some (.string zw) := by rw [HB_z_14.out.cell]; rfl
    have c_z_1 : w14.cell? ⟨b_z, 1, none⟩ = some (.int .i64 zn) := by rw [HB_z_14.out.cell]; rfl
    have c_z_2 : w14.cell? ⟨b_z, 2, none⟩ = some (.int .i64 zc) := by rw [HB_z_14.out.cell]; rfl
    have l_z := HB_z_14.out.lt
    obtain ⟨⟨rw, rn, rc⟩, hr⟩ : ∃ z, z = lpRun 2 rs s := ⟨_, rfl⟩
    rw [← hr]
    have e_r : runV (rw, rn, rc) = .agg #[.string rw, .int .i64 rn, .int .i64 rc] := rfl
    rw [e_r]
    clear e_r
    have hgr : lpGrows 2 rs s = (rc == 2) := by unfold lpGrows; have : (lpAll 2 rs s).2 = (rw, rn, rc) := hr.symm; rw [this]
    obtain ⟨l1, l2⟩ := loop_out Hro.out Hw.out
    rw [← hr] at l1 l2
    dsimp only at l1 l2
    obtain ⟨nn, hnn⟩ : ∃ z, z = lpLen 2 rs s := ⟨_, rfl⟩
    rw [← hnn] at l1 l2
    clear hr
    have L1 := Lib.hid l1
    clear l1
    have L2 := Lib.hid l2
    clear l2
    have Hgr := Lib.hid hgr
    clear hgr
    have Hnn := Lib.hid hnn
    clear hnn
    have bb := (Below.refl w14.heap.size w14).alloc (Nat.le_refl _) (.cells #[.string rw, .int .i64 rn, .int .i64 rc] 67)
    have hNB := Bk.new w14 67 #[.string rw, .int .i64 rn, .int .i64 rc]
    go_wp2_with fail
    obtain ⟨b_r, hbn⟩ : ∃ z, z = w14.heap.size := ⟨_, rfl⟩
    obtain ⟨w15, hwn⟩ : ∃ z, z = w14.alloc (.cells #[.string rw, .int .i64 rn, .int .i64 rc] 67) := ⟨_, rfl⟩
    rw [← hwn] at bb
    rw [← hbn, ← hwn] at hNB
    rw [← hwn]
    try rw [← hbn]
    clear c_s_0 c_s_1 l_s c_x_0 c_x_1 c_x_2 l_x c_y_0 c_y_1 c_y_2 l_y c_z_0 c_z_1 c_z_2 l_z
    have HB_s_15 := Lib.hid (HB_s_14.out.below bb HB_s_14.out.lt)
    clear HB_s_14
    have HB_x_15 := Lib.hid (HB_x_14.out.below bb HB_x_14.out.lt)
    clear HB_x_14
    have HB_y_15 := Lib.hid (HB_y_14.out.below bb HB_y_14.out.lt)
    clear HB_y_14
    have HB_z_15 := Lib.hid (HB_z_14.out.below bb HB_z_14.out.lt)
    clear HB_z_14
    have HR_s_15 := Lib.hid (HR_s_14.out.keep bb)
    clear HR_s_14
    have HL_15 := Lib.hid (HL_14.out.trans (bb.mono HL_14.out.size))
    clear HL_14
    have HB_r_15 := Lib.hid hNB
    clear hNB bb
    have Hbn_r := Lib.hid hbn
    clear hbn hwn
    have c_s_0 : w15.cell? ⟨b_s, 0, none⟩ = some (.int .i64 2) := by rw [HB_s_15.out.cell]; rfl
    have c_s_1 : w15.cell? ⟨b_s, 1, none⟩ = some (.slice B k d) := by rw [HB_s_15.out.cell]; rfl
    have l_s := HB_s_15.out.lt
    have c_x_0 : w15.cell? ⟨b_x, 0, none⟩ = some (.string xw) := by rw [HB_x_15.out.cell]; rfl
    have c_x_1 : w15.cell? ⟨b_x, 1, none⟩ = some (.int .i64 (N : Int)) := by rw [HB_x_15.out.cell]; rfl
    have c_x_2 : w15.cell? ⟨b_x, 2, none⟩ = some (.int .i64 3) := by rw [HB_x_15.out.cell]; rfl
    have l_x := HB_x_15.out.lt
    have c_y_0 : w15.cell? ⟨b_y, 0, none⟩ = some (.string zw) := by rw [HB_y_15.out.cell]; rfl
    have c_y_1 : w15.cell? ⟨b_y, 1, none⟩ = some (.int .i64 (zn + (a : Int))) := by rw [HB_y_15.out.cell]; rfl
    have c_y_2 : w15.cell? ⟨b_y, 2, none⟩ = some (.int .i64 zc) := by rw [HB_y_15.out.cell]; rfl
    have l_y := HB_y_15.out.lt
    have c_z_0 : w15.cell? ⟨b_z, 0, none⟩ = some (.string zw) := by rw [HB_z_15.out.cell]; rfl
    have c_z_1 : w15.cell? ⟨b_z, 1, none⟩ = some (.int .i64 zn) := by rw [HB_z_15.out.cell]; rfl
    have c_z_2 : w15.cell? ⟨b_z, 2, none⟩ = some (.int .i64 zc) := by rw [HB_z_15.out.cell]; rfl
    have l_z := HB_z_15.out.lt
    have c_r_0 : w15.cell? ⟨b_r, 0, none⟩ = some (.string rw) := by rw [HB_r_15.out.cell]; rfl
    have c_r_1 : w15.cell? ⟨b_r, 1, none⟩ = some (.int .i64 rn) := by rw [HB_r_15.out.cell]; rfl
    have c_r_2 : w15.cell? ⟨b_r, 2, none⟩ = some (.int .i64 rc) := by rw [HB_r_15.out.cell]; rfl
    have l_r := HB_r_15.out.lt
    (try go_wp2_with fail)
    with_reducible refine (implLoopLength_any 2 B k d rs s _ HR_s_15.out Hk.out hkb Hzs.out hsb).mono ?_
    rintro e w16 ⟨rfl, bb⟩
    clear c_s_0 c_s_1 l_s c_x_0 c_x_1 c_x_2 l_x c_y_0 c_y_1 c_y_2 l_y c_z_0 c_z_1 c_z_2 l_z c_r_0 c_r_1 c_r_2 l_r
    have HB_s_16 := Lib.hid (HB_s_15.out.below bb HB_s_15.out.lt)
    clear HB_s_15
    have HB_x_16 := Lib.hid (HB_x_15.out.below bb HB_x_15.out.lt)
    clear HB_x_15
    have HB_y_16 := Lib.hid (HB_y_15.out.below bb HB_y_15.out.lt)
    clear HB_y_15
    have HB_z_16 := Lib.hid (HB_z_15.out.below bb HB_z_15.out.lt)
    clear HB_z_15
    have HB_r_16 := Lib.hid (HB_r_15.out.below bb HB_r_15.out.lt)
    clear HB_r_15
    have HR_s_16 := Lib.hid (HR_s_15.out.keep bb)
    clear HR_s_15
    have HL_16 := Lib.hid (HL_15.out.trans (bb.mono HL_15.out.size))
    clear HL_15
    clear bb
    have c_s_0 : w16.cell? ⟨b_s, 0, none⟩ = some (.int .i64 2) := by rw [HB_s_16.out.cell]; rfl
    have c_s_1 : w16.cell? ⟨b_s, 1, none⟩ = some (.slice B k d) := by rw [HB_s_16.out.cell]; rfl
    have l_s := HB_s_16.out.lt
    have c_x_0 : w16.cell? ⟨b_x, 0, none⟩ = some (.string xw) := by rw [HB_x_16.out.cell]; rfl
    have c_x_1 : w16.cell? ⟨b_x, 1, none⟩ = some (.int .i64 (N : Int)) := by rw [HB_x_16.out.cell]; rfl
    have c_x_2 : w16.cell? ⟨b_x, 2, none⟩ = some (.int .i64 3) := by rw [HB_x_16.out.cell]; rfl
    have l_x := HB_x_16.out.lt
    have c_y_0 : w16.cell? ⟨b_y, 0, none⟩ = some (.string zw) := by rw [HB_y_16.out.cell]; rfl
    have c_y_1 : w16.cell? ⟨b_y, 1, none⟩ = some (.int .i64 (zn + (a : Int))) := by rw [HB_y_16.out.cell]; rfl
    have c_y_2 : w16.cell? ⟨b_y, 2, none⟩ = some (.int .i64 zc) := by rw [HB_y_16.out.cell]; rfl
    have l_y := HB_y_16.out.lt
    have c_z_0 : w16.cell? ⟨b_z, 0, none⟩ = some (.string zw) := by rw [HB_z_16.out.cell]; rfl
    have c_z_1 : w16.cell? ⟨b_z, 1, none⟩ = some (.int .i64 zn) := by rw [HB_z_16.out.cell]; rfl
    have c_z_2 : w16.cell? ⟨b_z, 2, none⟩ = some (.int .i64 zc) := by rw [HB_z_16.out.cell]; rfl
    have l_z := HB_z_16.out.lt
    have c_r_0 : w16.cell? ⟨b_r, 0, none⟩ = some (.string rw) := by rw [HB_r_16.out.cell]; rfl
    have c_r_1 : w16.cell? ⟨b_r, 1, none⟩ = some (.int .i64 rn) := by rw [HB_r_16.out.cell]; rfl
    have c_r_2 : w16.cell? ⟨b_r, 2, none⟩ = some (.int .i64 rc) := by rw [HB_r_16.out.cell]; rfl
    have l_r := HB_r_16.out.lt
    rw [← Hnn.out]
    by_cases h1 : rc = 1
    · skip
      obtain ⟨n1, n2, n3, n4⟩ := L1.out h1
      subst h1
      clear L1 L2
      have n5 : ¬ nn < 0 := by omega
      have hrb : rw.size ≤ 1048576 := by have := (wordOk_out n3).2.2.1; omega
      have hz9 : ((1 : Int) == 2) = false := rfl
      have N3 := Lib.hid n3
      clear n3
      have N4 := Lib.hid n4
      clear n4
      go_wp2_with fail
      refine wp_region_held_drew (S := (fun W => W.cell? ⟨b_s, 0, none⟩ = some (.int .i64 2) ∧ W.cell? ⟨b_s, 1, none⟩ = some (.slice B k d) ∧ W.cell? ⟨b_r, 0, none⟩ = some (.string rw) ∧ W.cell? ⟨b_r, 1, none⟩ = some (.int .i64 rn) ∧ W.cell? ⟨b_r, 2, none⟩ = some (.int .i64 1))) (by kernel_rfl) ((by exact ⟨c_s_0, c_s_1, c_r_0, c_r_1, c_r_2⟩)) (fun hHeld => ?_)
      refine wpAnyH_take (i := 0) (oi := ?oi858) (v := ?val858) ?hi858 ?hs858 ?hf858 ?hr858 ?hQ858 ?hy858 ?hS858 ?hrest858
      case hi858 => (simp only [List.getElem?_toArray, List.getElem?_cons_succ, List.getElem?_cons_zero] <;> exact rfl)
      case hs858 => kernel_rfl
      case hf858 => kernel_rfl
      case hr858 => kernel_rfl
      case hQ858 => exact fun _ _ _ h => h
      case hS858 => assumption
      case hy858 => (refine Or.inl ⟨by rfl, ?_⟩; intro w hSw; (try dsimp only at hSw); obtain ⟨z0, z1, z2, z3, z4⟩ := hSw; go_simp; try with_reducible rfl)
      simp only [Act.put, List.setIfInBounds_toArray, List.set_cons_zero, List.set_cons_succ]
      refine wpAnyH_take (i := 1) (oi := ?oi867) (v := ?val867) ?hi867 ?hs867 ?hf867 ?hr867 ?hQ867 ?hy867 ?hS867 ?hrest867
      case hi867 => (simp only [List.getElem?_toArray, List.getElem?_cons_succ, List.getElem?_cons_zero] <;> exact rfl)
      case hs867 => kernel_rfl
      case hf867 => kernel_rfl
      case hr867 => kernel_rfl
      case hQ867 => exact fun _ _ _ h => h
      case hS867 => assumption
      case hy867 => (refine Or.inl ⟨by rfl, ?_⟩; intro w hSw; (try dsimp only at hSw); obtain ⟨z0, z1, z2, z3, z4⟩ := hSw; go_simp; try with_reducible rfl)
      simp only [Act.put, List.setIfInBounds_toArray, List.set_cons_zero, List.set_cons_succ]
      refine wpAnyH_take (i := 2) (oi := ?oi876) (v := ?val876) ?hi876 ?hs876 ?hf876 ?hr876 ?hQ876 ?hy876 ?hS876 ?hrest876
      case hi876 => (simp only [List.getElem?_toArray, List.getElem?_cons_succ, List.getElem?_cons_zero] <;> exact rfl)
      case hs876 => kernel_rfl
      case hf876 => kernel_rfl
      case hr876 => kernel_rfl
      case hQ876 => exact fun _ _ _ h => h
      case hS876 => assumption
      case hy876 => (refine Or.inl ⟨by rfl, ?_⟩; intro w hSw; (try dsimp only at hSw); obtain ⟨z0, z1, z2, z3, z4⟩ := hSw; go_simp; try with_reducible rfl)
      simp only [Act.put, List.setIfInBounds_toArray, List.set_cons_zero, List.set_cons_succ]
      refine wpAnyH_take (i := 3) (oi := ?oi885) (v := ?val885) ?hi885 ?hs885 ?hf885 ?hr885 ?hQ885 ?hy885 ?hS885 ?hrest885
      case hi885 => (simp only [List.getElem?_toArray, List.getElem?_cons_succ, List.getElem?_cons_zero] <;> exact rfl)
      case hs885 => kernel_rfl
      case hf885 => kernel_rfl
      case hr885 => kernel_rfl
      case hQ885 => exact fun _ _ _ h => h
      case hS885 => assumption
      case hy885 => (refine Or.inl ⟨by rfl, ?_⟩; intro w hSw; (try dsimp only at hSw); obtain ⟨z0, z1, z2, z3, z4⟩ := hSw; go_simp; try with_reducible rfl)
      simp only [Act.put, List.setIfInBounds_toArray, List.set_cons_zero, List.set_cons_succ]
      refine wpAnyH_take (i := 4) (oi := ?oi894) (v := ?val894) ?hi894 ?hs894 ?hf894 ?hr894 ?hQ894 ?hy894 ?hS894 ?hrest894
      case hi894 => (simp only [List.getElem?_toArray, List.getElem?_cons_succ, List.getElem?_cons_zero] <;> exact rfl)
      case hs894 => kernel_rfl
      case hf894 => kernel_rfl
      case hr894 => kernel_rfl
      case hQ894 => exact fun _ _ _ h => h
      case hS894 => assumption
      case hy894 => (refine Or.inl ⟨by rfl, ?_⟩; intro w hSw; (try dsimp only at hSw); obtain ⟨z0, z1, z2, z3, z4⟩ := hSw; go_simp; try with_reducible rfl)
      simp only [Act.put, List.setIfInBounds_toArray, List.set_cons_zero, List.set_cons_succ]
      refine wpAnyH_take (i := 5) (oi := ?oi903) (v := ?val903) ?hi903 ?hs903 ?hf903 ?hr903 ?hQ903 ?hy903 ?hS903 ?hrest903
      case hi903 => (simp only [List.getElem?_toArray, List.getElem?_cons_succ, List.getElem?_cons_zero] <;> exact rfl)
      case hs903 => kernel_rfl
      case hf903 => kernel_rfl
      case hr903 => kernel_rfl
      case hQ903 => exact fun _ _ _ h => h
      case hS903 => assumption
      case hy903 => (refine Or.inl ⟨by rfl, ?_⟩; intro w hSw; (try dsimp only at hSw); obtain ⟨z0, z1, z2, z3, z4⟩ := hSw; go_simp; try with_reducible rfl)
      simp only [Act.put, List.setIfInBounds_toArray, List.set_cons_zero, List.set_cons_succ]
      refine wpAnyH_take (i := 6) (oi := ?oi912) (v := ?val912) ?hi912 ?hs912 ?hf912 ?hr912 ?hQ912 ?hy912 ?hS912 ?hrest912
      case hi912 => (simp only [List.getElem?_toArray, List.getElem?_cons_succ, List.getElem?_cons_zero] <;> exact rfl)
      case hs912 => kernel_rfl
      case hf912 => kernel_rfl
      case hr912 => kernel_rfl
      case hQ912 => exact fun _ _ _ h => h
      case hS912 => assumption
      case hy912 => (refine Or.inl ⟨by rfl, ?_⟩; intro w hSw; (try dsimp only at hSw); obtain ⟨z0, z1, z2, z3, z4⟩ := hSw; go_simp; try with_reducible rfl)
      simp only [Act.put, List.setIfInBounds_toArray, List.set_cons_zero, List.set_cons_succ]
      refine wpAnyH_take (i := 7) (oi := ?oi921) (v := ?val921) ?hi921 ?hs921 ?hf921 ?hr921 ?hQ921 ?hy921 ?hS921 ?hrest921
      case hi921 => (simp only [List.getElem?_toArray, List.getElem?_cons_succ, List.getElem?_cons_zero] <;> exact rfl)
      case hs921 => kernel_rfl
      case hf921 => kernel_rfl
      case hr921 => kernel_rfl
      case hQ921 => exact fun _ _ _ h => h
      case hS921 => assumption
      case hy921 => (refine Or.inl ⟨by rfl, ?_⟩; intro w hSw; (try dsimp only at hSw); obtain ⟨z0, z1, z2, z3, z4⟩ := hSw; go_simp; try with_reducible rfl)
      simp only [Act.put, List.setIfInBounds_toArray, List.set_cons_zero, List.set_cons_succ]
      refine wpAnyH_take (i := 8) (oi := ?oi930) (v := ?val930) ?hi930 ?hs930 ?hf930 ?hr930 ?hQ930 ?hy930 ?hS930 ?hrest930
      case hi930 => (simp only [List.getElem?_toArray, List.getElem?_cons_succ, List.getElem?_cons_zero] <;> exact rfl)
      case hs930 => kernel_rfl
      case hf930 => kernel_rfl
      case hr930 => kernel_rfl
      case hQ930 => exact fun _ _ _ h => h
      case hS930 => assumption
      case hy930 => (refine Or.inl ⟨by rfl, ?_⟩; intro w hSw; (try dsimp only at hSw); obtain ⟨z0, z1, z2, z3, z4⟩ := hSw; go_simp; try with_reducible rfl)
      simp only [Act.put, List.setIfInBounds_toArray, List.set_cons_zero, List.set_cons_succ]
      refine wpAnyH_take (i := 10) (oi := ?oi939) (v := ?val939) ?hi939 ?hs939 ?hf939 ?hr939 ?hQ939 ?hy939 ?hS939 ?hrest939
      case hi939 => (simp only [List.getElem?_toArray, List.getElem?_cons_succ, List.getElem?_cons_zero] <;> exact rfl)
      case hs939 => kernel_rfl
      case hf939 => kernel_rfl
      case hr939 => kernel_rfl
      case hQ939 => exact fun _ _ _ h => h
      case hS939 => assumption
      case hy939 => (refine Or.inl ⟨by rfl, ?_⟩; intro w hSw; (try dsimp only at hSw); obtain ⟨z0, z1, z2, z3, z4⟩ := hSw; go_simp; try with_reducible rfl)
      simp only [Act.put, List.setIfInBounds_toArray, List.set_cons_zero, List.set_cons_succ]
      refine wpAnyH_take (i := 11) (oi := ?oi948) (v := ?val948) ?hi948 ?hs948 ?hf948 ?hr948 ?hQ948 ?hy948 ?hS948 ?hrest948
      case hi948 => (simp only [List.getElem?_toArray, List.getElem?_cons_succ, List.getElem?_cons_zero] <;> exact rfl)
      case hs948 => kernel_rfl
      case hf948 => kernel_rfl
      case hr948 => kernel_rfl
      case hQ948 => exact fun _ _ _ h => h
      case hS948 => assumption
      case hy948 => (refine Or.inl ⟨by rfl, ?_⟩; intro w hSw; (try dsimp only at hSw); obtain ⟨z0, z1, z2, z3, z4⟩ := hSw; go_simp; try with_reducible rfl)
      simp only [Act.put, List.setIfInBounds_toArray, List.set_cons_zero, List.set_cons_succ]
      refine wpAnyH_take (i := 12) (oi := ?oi957) (v := ?val957) ?hi957 ?hs957 ?hf957 ?hr957 ?hQ957 ?hy957 ?hS957 ?hrest957
      case hi957 => (simp only [List.getElem?_toArray, List.getElem?_cons_succ, List.getElem?_cons_zero] <;> exact rfl)
      case hs957 => kernel_rfl
      case hf957 => kernel_rfl
      case hr957 => kernel_rfl
      case hQ957 => exact fun _ _ _ h => h
      case hS957 => assumption
      case hy957 => (refine Or.inl ⟨by rfl, ?_⟩; intro w hSw; (try dsimp only at hSw); obtain ⟨z0, z1, z2, z3, z4⟩ := hSw; go_simp; try with_reducible rfl)
      simp only [Act.put, List.setIfInBounds_toArray, List.set_cons_zero, List.set_cons_succ]
      refine wpAnyH_ready (rs := [9]) (by kernel_rfl) (by simp) ?_
      refine AllReadyH.cons rfl (fun K hK => ?_) AllReadyH.nil
      (go_simp; (with_reducible refine (implGrowsOn_any 2 B k d rs s _ (Rd.drew HR_s_16.out) Hk.out hkb Hzs.out hsb).mono ?_); rintro e w17 ⟨rfl, bb⟩; have bd := ((Below.refl w16.heap.size w16).drew).trans bb; rw [Hgr.out]; have hQ_s := HB_s_16.out.below bd HB_s_16.out.lt; have hQ_r := HB_r_16.out.below bd HB_r_16.out.lt)
      refine hK.out _ _ ((by exact ⟨by rw [hQ_s.cell]; rfl, by rw [hQ_s.cell]; rfl, by rw [hQ_r.cell]; rfl, by rw [hQ_r.cell]; rfl, by rw [hQ_r.cell]; rfl⟩)) (fun hHeld2 => ?_)
      clear hK K hHeld
      have hHeld := hHeld2
      clear hHeld2
      first | simp only [Act.put, List.setIfInBounds_toArray, List.set_cons_zero, List.set_cons_succ] | skip
      clear hQ_s hQ_r
      refine wpAnyH_take (i := 13) (oi := ?oi975) (v := ?val975) ?hi975 ?hs975 ?hf975 ?hr975 ?hQ975 ?hy975 ?hS975 ?hrest975
      case hi975 => (simp only [List.getElem?_toArray, List.getElem?_cons_succ, List.getElem?_cons_zero] <;> exact rfl)
      case hs975 => kernel_rfl
      case hf975 => kernel_rfl
      case hr975 => kernel_rfl
      case hQ975 => exact fun _ _ _ h => h
      case hS975 => assumption
      case hy975 => (refine Or.inl ⟨by rfl, ?_⟩; intro w hSw; (try dsimp only at hSw); obtain ⟨z0, z1, z2, z3, z4⟩ := hSw; go_simp; try with_reducible rfl)
      simp only [Act.put, List.setIfInBounds_toArray, List.set_cons_zero, List.set_cons_succ]
      refine wpAnyH_take (i := 14) (oi := ?oi984) (v := ?val984) ?hi984 ?hs984 ?hf984 ?hr984 ?hQ984 ?hy984 ?hS984 ?hrest984
      case hi984 => (simp only [List.getElem?_toArray, List.getElem?_cons_succ, List.getElem?_cons_zero] <;> exact rfl)
      case hs984 => kernel_rfl
      case hf984 => kernel_rfl
      case hr984 => kernel_rfl
      case hQ984 => exact fun _ _ _ h => h
      case hS984 => assumption
      case hy984 => (refine Or.inl ⟨by rfl, ?_⟩; intro w hSw; (try dsimp only at hSw); obtain ⟨z0, z1, z2, z3, z4⟩ := hSw; go_simp; try with_reducible rfl)
      simp only [Act.put, List.setIfInBounds_toArray, List.set_cons_zero, List.set_cons_succ]
      refine wpAnyH_done (by kernel_rfl) ?_ _
      clear hHeld bb
      clear c_s_0 c_s_1 l_s c_x_0 c_x_1 c_x_2 l_x c_y_0 c_y_1 c_y_2 l_y c_z_0 c_z_1 c_z_2 l_z c_r_0 c_r_1 c_r_2 l_r
      have HB_s_17 := Lib.hid (HB_s_16.out.below bd HB_s_16.out.lt)
      clear HB_s_16
      have HB_x_17 := Lib.hid (HB_x_16.out.below bd HB_x_16.out.lt)
      clear HB_x_16
      have HB_y_17 := Lib.hid (HB_y_16.out.below bd HB_y_16.out.lt)
      clear HB_y_16
      have HB_z_17 := Lib.hid (HB_z_16.out.below bd HB_z_16.out.lt)
      clear HB_z_16
      have HB_r_17 := Lib.hid (HB_r_16.out.below bd HB_r_16.out.lt)
      clear HB_r_16
      have HR_s_17 := Lib.hid (HR_s_16.out.keep bd)
      clear HR_s_16
      have HL_17 := Lib.hid (HL_16.out.trans (bd.mono HL_16.out.size))
      clear HL_16
      clear bd
      have c_s_0 : w17.cell? ⟨b_s, 0, none⟩ = some (.int .i64 2) := by rw [HB_s_17.out.cell]; rfl
      have c_s_1 : w17.cell? ⟨b_s, 1, none⟩ = some (.slice B k d) := by rw [HB_s_17.out.cell]; rfl
      have l_s := HB_s_17.out.lt
      have c_x_0 : w17.cell? ⟨b_x, 0, none⟩ = some (.string xw) := by rw [HB_x_17.out.cell]; rfl
      have c_x_1 : w17.cell? ⟨b_x, 1, none⟩ = some (.int .i64 (N : Int)) := by rw [HB_x_17.out.cell]; rfl
      have c_x_2 : w17.cell? ⟨b_x, 2, none⟩ = some (.int .i64 3) := by rw [HB_x_17.out.cell]; rfl
      have l_x := HB_x_17.out.lt
      have c_y_0 : w17.cell? ⟨b_y, 0, none⟩ = some (.string zw) := by rw [HB_y_17.out.cell]; rfl
      have c_y_1 : w17.cell? ⟨b_y, 1, none⟩ = some (.int .i64 (zn + (a : Int))) := by rw [HB_y_17.out.cell]; rfl
      have c_y_2 : w17.cell? ⟨b_y, 2, none⟩ = some (.int .i64 zc) := by rw [HB_y_17.out.cell]; rfl
      have l_y := HB_y_17.out.lt
      have c_z_0 : w17.cell? ⟨b_z, 0, none⟩ = some (.string zw) := by rw [HB_z_17.out.cell]; rfl
      have c_z_1 : w17.cell? ⟨b_z, 1, none⟩ = some (.int .i64 zn) := by rw [HB_z_17.out.cell]; rfl
      have c_z_2 : w17.cell? ⟨b_z, 2, none⟩ = some (.int .i64 zc) := by rw [HB_z_17.out.cell]; rfl
      have l_z := HB_z_17.out.lt
      have c_r_0 : w17.cell? ⟨b_r, 0, none⟩ = some (.string rw) := by rw [HB_r_17.out.cell]; rfl
      have c_r_1 : w17.cell? ⟨b_r, 1, none⟩ = some (.int .i64 rn) := by rw [HB_r_17.out.cell]; rfl
      have c_r_2 : w17.cell? ⟨b_r, 2, none⟩ = some (.int .i64 1) := by rw [HB_r_17.out.cell]; rfl
      have l_r := HB_r_17.out.lt
      go_wp2_with fail
      obtain ⟨⟨qw, qn, qc⟩, hq⟩ : ∃ z, z = runAll false 2 rs rw nn := ⟨_, rfl⟩
      have n6 := N4.out
      rw [← hq] at n6
      dsimp only at n6
      subst n6
      have eq_ : runV (qw, qn, qc) = .agg #[.string qw, .int .i64 qn, .int .i64 qc] := rfl
      have hfld : ∀ W, (Instr.field 67 (.agg #[.string qw, .int .i64 qn, .int .i64 qc]) 0).run Try.prog W = .ok (.string qw) W := fun W => rfl
      have Hq := Lib.hid hq
      clear hq
      refine wp_region_held_drew (S := (fun W => W.cell? ⟨b_s, 0, none⟩ = some (.int .i64 2) ∧ W.cell? ⟨b_s, 1, none⟩ = some (.slice B k d) ∧ W.cell? ⟨b_r, 0, none⟩ = some (.string qw) ∧ W.cell? ⟨b_r, 1, none⟩ = some (.int .i64 rn) ∧ W.cell? ⟨b_r, 2, none⟩ = some (.int .i64 1))) (by kernel_rfl) ((by exact ⟨c_s_0, c_s_1, c_r_0, c_r_1, c_r_2⟩)) (fun hHeld => ?_)
      refine wpAnyH_take (i := 0) (oi := ?oi1041) (v := ?val1041) ?hi1041 ?hs1041 ?hf1041 ?hr1041 ?hQ1041 ?hy1041 ?hS1041 ?hrest1041
      case hi1041 => (simp only [List.getElem?_toArray, List.getElem?_cons_succ, List.getElem?_cons_zero] <;> exact rfl)
      case hs1041 => kernel_rfl
      case hf1041 => kernel_rfl
      case hr1041 => kernel_rfl
      case hQ1041 => exact fun _ _ _ h => h
      case hS1041 => assumption
      case hy1041 => (refine Or.inl ⟨by rfl, ?_⟩; intro w hSw; (try dsimp only at hSw); obtain ⟨z0, z1, z2, z3, z4⟩ := hSw; go_simp; try with_reducible rfl)
      simp only [Act.put, List.setIfInBounds_toArray, List.set_cons_zero, List.set_cons_succ]
      refine wpAnyH_take (i := 1) (oi := ?oi1050) (v := ?val1050) ?hi1050 ?hs1050 ?hf1050 ?hr1050 ?hQ1050 ?hy1050 ?hS1050 ?hrest1050
      case hi1050 => (simp only [List.getElem?_toArray, List.getElem?_cons_succ, List.getElem?_cons_zero] <;> exact rfl)
      case hs1050 => kernel_rfl
      case hf1050 => kernel_rfl
      case hr1050 => kernel_rfl
      case hQ1050 => exact fun _ _ _ h => h
      case hS1050 => assumption
      case hy1050 => (refine Or.inl ⟨by rfl, ?_⟩; intro w hSw; (try dsimp only at hSw); obtain ⟨z0, z1, z2, z3, z4⟩ := hSw; go_simp; try with_reducible rfl)
      simp only [Act.put, List.setIfInBounds_toArray, List.set_cons_zero, List.set_cons_succ]
      refine wpAnyH_take (i := 2) (oi := ?oi1059) (v := ?val1059) ?hi1059 ?hs1059 ?hf1059 ?hr1059 ?hQ1059 ?hy1059 ?hS1059 ?hrest1059
      case hi1059 => (simp only [List.getElem?_toArray, List.getElem?_cons_succ, List.getElem?_cons_zero] <;> exact rfl)
      case hs1059 => kernel_rfl
      case hf1059 => kernel_rfl
      case hr1059 => kernel_rfl
      case hQ1059 => exact fun _ _ _ h => h
      case hS1059 => assumption
      case hy1059 => (refine Or.inl ⟨by rfl, ?_⟩; intro w hSw; (try dsimp only at hSw); obtain ⟨z0, z1, z2, z3, z4⟩ := hSw; go_simp; try with_reducible rfl)
      simp only [Act.put, List.setIfInBounds_toArray, List.set_cons_zero, List.set_cons_succ]
      refine wpAnyH_take (i := 3) (oi := ?oi1068) (v := ?val1068) ?hi1068 ?hs1068 ?hf1068 ?hr1068 ?hQ1068 ?hy1068 ?hS1068 ?hrest1068
      case hi1068 => (simp only [List.getElem?_toArray, List.getElem?_cons_succ, List.getElem?_cons_zero] <;> exact rfl)
      case hs1068 => kernel_rfl
      case hf1068 => kernel_rfl
      case hr1068 => kernel_rfl
      case hQ1068 => exact fun _ _ _ h => h
      case hS1068 => assumption
      case hy1068 => (refine Or.inl ⟨by rfl, ?_⟩; intro w hSw; (try dsimp only at hSw); obtain ⟨z0, z1, z2, z3, z4⟩ := hSw; go_simp; try with_reducible rfl)
      simp only [Act.put, List.setIfInBounds_toArray, List.set_cons_zero, List.set_cons_succ]
      refine wpAnyH_take (i := 4) (oi := ?oi1077) (v := ?val1077) ?hi1077 ?hs1077 ?hf1077 ?hr1077 ?hQ1077 ?hy1077 ?hS1077 ?hrest1077
      case hi1077 => (simp only [List.getElem?_toArray, List.getElem?_cons_succ, List.getElem?_cons_zero] <;> exact rfl)
      case hs1077 => kernel_rfl
      case hf1077 => kernel_rfl
      case hr1077 => kernel_rfl
      case hQ1077 => exact fun _ _ _ h => h
      case hS1077 => assumption
      case hy1077 => (refine Or.inl ⟨by rfl, ?_⟩; intro w hSw; (try dsimp only at hSw); obtain ⟨z0, z1, z2, z3, z4⟩ := hSw; go_simp; try with_reducible rfl)
      simp only [Act.put, List.setIfInBounds_toArray, List.set_cons_zero, List.set_cons_succ]
      refine wpAnyH_take (i := 5) (oi := ?oi1086) (v := ?val1086) ?hi1086 ?hs1086 ?hf1086 ?hr1086 ?hQ1086 ?hy1086 ?hS1086 ?hrest1086
      case hi1086 => (simp only [List.getElem?_toArray, List.getElem?_cons_succ, List.getElem?_cons_zero] <;> exact rfl)
      case hs1086 => kernel_rfl
      case hf1086 => kernel_rfl
      case hr1086 => kernel_rfl
      case hQ1086 => exact fun _ _ _ h => h
      case hS1086 => assumption
      case hy1086 => (refine Or.inl ⟨by rfl, ?_⟩; intro w hSw; (try dsimp only at hSw); obtain ⟨z0, z1, z2, z3, z4⟩ := hSw; go_simp; try with_reducible rfl)
      simp only [Act.put, List.setIfInBounds_toArray, List.set_cons_zero, List.set_cons_succ]
      refine wpAnyH_take (i := 6) (oi := ?oi1095) (v := ?val1095) ?hi1095 ?hs1095 ?hf1095 ?hr1095 ?hQ1095 ?hy1095 ?hS1095 ?hrest1095
      case hi1095 => (simp only [List.getElem?_toArray, List.getElem?_cons_succ, List.getElem?_cons_zero] <;> exact rfl)
      case hs1095 => kernel_rfl
      case hf1095 => kernel_rfl
      case hr1095 => kernel_rfl
      case hQ1095 => exact fun _ _ _ h => h
      case hS1095 => assumption
      case hy1095 => (refine Or.inl ⟨by rfl, ?_⟩; intro w hSw; (try dsimp only at hSw); obtain ⟨z0, z1, z2, z3, z4⟩ := hSw; go_simp; try with_reducible rfl)
      simp only [Act.put, List.setIfInBounds_toArray, List.set_cons_zero, List.set_cons_succ]
      refine wpAnyH_take (i := 9) (oi := ?oi1104) (v := ?val1104) ?hi1104 ?hs1104 ?hf1104 ?hr1104 ?hQ1104 ?hy1104 ?hS1104 ?hrest1104
      case hi1104 => (simp only [List.getElem?_toArray, List.getElem?_cons_succ, List.getElem?_cons_zero] <;> exact rfl)
      case hs1104 => kernel_rfl
      case hf1104 => kernel_rfl
      case hr1104 => kernel_rfl
      case hQ1104 => exact fun _ _ _ h => h
      case hS1104 => assumption
      case hy1104 => (refine Or.inl ⟨by rfl, ?_⟩; intro w hSw; (try dsimp only at hSw); obtain ⟨z0, z1, z2, z3, z4⟩ := hSw; go_simp; try with_reducible rfl)
      simp only [Act.put, List.setIfInBounds_toArray, List.set_cons_zero, List.set_cons_succ]
      refine wpAnyH_take (i := 10) (oi := ?oi1113) (v := ?val1113) ?hi1113 ?hs1113 ?hf1113 ?hr1113 ?hQ1113 ?hy1113 ?hS1113 ?hrest1113
      case hi1113 => (simp only [List.getElem?_toArray, List.getElem?_cons_succ, List.getElem?_cons_zero] <;> exact rfl)
      case hs1113 => kernel_rfl
      case hf1113 => kernel_rfl
      case hr1113 => kernel_rfl
      case hQ1113 => exact fun _ _ _ h => h
      case hS1113 => assumption
      case hy1113 => (refine Or.inl ⟨by rfl, ?_⟩; intro w hSw; (try dsimp only at hSw); obtain ⟨z0, z1, z2, z3, z4⟩ := hSw; go_simp; try with_reducible rfl)
      simp only [Act.put, List.setIfInBounds_toArray, List.set_cons_zero, List.set_cons_succ]
      refine wpAnyH_ready (rs := [7]) (by kernel_rfl) (by simp) ?_
      refine AllReadyH.cons rfl (fun K hK => ?_) AllReadyH.nil
      (go_simp; (with_reducible refine (implRunFirst_any 2 B k d rs qw nn _ (Rd.drew HR_s_17.out) Hk.out hkb Hzs.out hrb).mono ?_); rintro e w18 ⟨rfl, bb⟩; have bd := ((Below.refl w17.heap.size w17).drew).trans bb; rw [← Hq.out, eq_]; have hQ_s := HB_s_17.out.below bd HB_s_17.out.lt; have hQ_r := HB_r_17.out.below bd HB_r_17.out.lt)
      refine hK.out _ _ ((by exact ⟨by rw [hQ_s.cell]; rfl, by rw [hQ_s.cell]; rfl, by rw [hQ_r.cell]; rfl, by rw [hQ_r.cell]; rfl, by rw [hQ_r.cell]; rfl⟩)) (fun hHeld2 => ?_)
      clear hK K hHeld
      have hHeld := hHeld2
      clear hHeld2
      first | simp only [Act.put, List.setIfInBounds_toArray, List.set_cons_zero, List.set_cons_succ] | skip
      clear hQ_s hQ_r
      refine wpAnyH_take (i := 8) (oi := ?oi1131) (v := ?val1131) ?hi1131 ?hs1131 ?hf1131 ?hr1131 ?hQ1131 ?hy1131 ?hS1131 ?hrest1131
      case hi1131 => (simp only [List.getElem?_toArray, List.getElem?_cons_succ, List.getElem?_cons_zero] <;> exact rfl)
      case hs1131 => kernel_rfl
      case hf1131 => kernel_rfl
      case hr1131 => kernel_rfl
      case hQ1131 => exact fun _ _ _ h => h
      case hS1131 => assumption
      case hy1131 => (refine Or.inl ⟨by rfl, ?_⟩; intro w hSw; (try dsimp only at hSw); obtain ⟨z0, z1, z2, z3, z4⟩ := hSw; go_simp; try with_reducible rfl)
      simp only [Act.put, List.setIfInBounds_toArray, List.set_cons_zero, List.set_cons_succ]
      refine wpAnyH_take (i := 11) (oi := ?oi1140) (v := ?val1140) ?hi1140 ?hs1140 ?hf1140 ?hr1140 ?hQ1140 ?hy1140 ?hS1140 ?hrest1140
      case hi1140 => (simp only [List.getElem?_toArray, List.getElem?_cons_succ, List.getElem?_cons_zero] <;> exact rfl)
      case hs1140 => kernel_rfl
      case hf1140 => kernel_rfl
      case hr1140 => kernel_rfl
      case hQ1140 => exact fun _ _ _ h => h
      case hS1140 => assumption
      case hy1140 => (refine Or.inl ⟨by rfl, ?_⟩; intro w hSw; (try dsimp only at hSw); obtain ⟨z0, z1, z2, z3, z4⟩ := hSw; go_simp; try with_reducible rfl)
      simp only [Act.put, List.setIfInBounds_toArray, List.set_cons_zero, List.set_cons_succ]
      refine wpAnyH_take (i := 12) (oi := ?oi1149) (v := ?val1149) ?hi1149 ?hs1149 ?hf1149 ?hr1149 ?hQ1149 ?hy1149 ?hS1149 ?hrest1149
      case hi1149 => (simp only [List.getElem?_toArray, List.getElem?_cons_succ, List.getElem?_cons_zero] <;> exact rfl)
      case hs1149 => kernel_rfl
      case hf1149 => kernel_rfl
      case hr1149 => kernel_rfl
      case hQ1149 => exact fun _ _ _ h => h
      case hS1149 => assumption
      case hy1149 => (refine Or.inl ⟨by rfl, ?_⟩; intro w hSw; (try dsimp only at hSw); obtain ⟨z0, z1, z2, z3, z4⟩ := hSw; go_simp; try with_reducible rfl)
      simp only [Act.put, List.setIfInBounds_toArray, List.set_cons_zero, List.set_cons_succ]
      refine wpAnyH_done (by kernel_rfl) ?_ _
      clear hHeld bb
      clear c_s_0 c_s_1 l_s c_x_0 c_x_1 c_x_2 l_x c_y_0 c_y_1 c_y_2 l_y c_z_0 c_z_1 c_z_2 l_z c_r_0 c_r_1 c_r_2 l_r
      have HB_s_18 := Lib.hid (HB_s_17.out.below bd HB_s_17.out.lt)
      clear HB_s_17
      have HB_x_18 := Lib.hid (HB_x_17.out.below bd HB_x_17.out.lt)
      clear HB_x_17
      have HB_y_18 := Lib.hid (HB_y_17.out.below bd HB_y_17.out.lt)
      clear HB_y_17
      have HB_z_18 := Lib.hid (HB_z_17.out.below bd HB_z_17.out.lt)
      clear HB_z_17
      have HB_r_18 := Lib.hid (HB_r_17.out.below bd HB_r_17.out.lt)
      clear HB_r_17
      have HR_s_18 := Lib.hid (HR_s_17.out.keep bd)
      clear HR_s_17
      have HL_18 := Lib.hid (HL_17.out.trans (bd.mono HL_17.out.size))
      clear HL_17
      clear bd
      have c_s_0 : w18.cell? ⟨b_s, 0, none⟩ = some (.int .i64 2) := by rw [HB_s_18.out.cell]; rfl
      have c_s_1 : w18.cell? ⟨b_s, 1, none⟩ = some (.slice B k d) := by rw [HB_s_18.out.cell]; rfl
      have l_s := HB_s_18.out.lt
      have c_x_0 : w18.cell? ⟨b_x, 0, none⟩ = some (.string xw) := by rw [HB_x_18.out.cell]; rfl
      have c_x_1 : w18.cell? ⟨b_x, 1, none⟩ = some (.int .i64 (N : Int)) := by rw [HB_x_18.out.cell]; rfl
      have c_x_2 : w18.cell? ⟨b_x, 2, none⟩ = some (.int .i64 3) := by rw [HB_x_18.out.cell]; rfl
      have l_x := HB_x_18.out.lt
      have c_y_0 : w18.cell? ⟨b_y, 0, none⟩ = some (.string zw) := by rw [HB_y_18.out.cell]; rfl
      have c_y_1 : w18.cell? ⟨b_y, 1, none⟩ = some (.int .i64 (zn + (a : Int))) := by rw [HB_y_18.out.cell]; rfl
      have c_y_2 : w18.cell? ⟨b_y, 2, none⟩ = some (.int .i64 zc) := by rw [HB_y_18.out.cell]; rfl
      have l_y := HB_y_18.out.lt
      have c_z_0 : w18.cell? ⟨b_z, 0, none⟩ = some (.string zw) := by rw [HB_z_18.out.cell]; rfl
      have c_z_1 : w18.cell? ⟨b_z, 1, none⟩ = some (.int .i64 zn) := by rw [HB_z_18.out.cell]; rfl
      have c_z_2 : w18.cell? ⟨b_z, 2, none⟩ = some (.int .i64 zc) := by rw [HB_z_18.out.cell]; rfl
      have l_z := HB_z_18.out.lt
      have c_r_0 : w18.cell? ⟨b_r, 0, none⟩ = some (.string qw) := by rw [HB_r_18.out.cell]; rfl
      have c_r_1 : w18.cell? ⟨b_r, 1, none⟩ = some (.int .i64 rn) := by rw [HB_r_18.out.cell]; rfl
      have c_r_2 : w18.cell? ⟨b_r, 2, none⟩ = some (.int .i64 1) := by rw [HB_r_18.out.cell]; rfl
      have l_r := HB_r_18.out.lt
      clear hfld eq_
      clear c_s_0 c_s_1 l_s c_x_0 c_x_1 c_x_2 l_x c_y_0 c_y_1 c_y_2 l_y c_z_0 c_z_1 c_z_2 l_z c_r_0 c_r_1 c_r_2 l_r
      clear HB_s_18
      clear HB_x_18
      clear HB_y_18
      clear HB_z_18
      clear HB_r_18
      clear HR_s_18
      (try go_wp2_with fail)
      with_reducible refine (HMo.out _ HL_18.out).mono ?_
      rintro e w19 ⟨l2, B2, k2, d2, rs2, hsy, hk2, rfl, hO2, bb⟩
      have HL_19 := Lib.hid (HL_18.out.trans (bb.mono HL_18.out.size))
      clear HL_18
      clear bb
      have hin := sys_in hsy
      obtain ⟨L, rfl⟩ : ∃ L : Nat, l2 = (L : Int) := ⟨l2.toNat, by omega⟩
      have hkb2 : k2 ≤ 1048576 := by omega
      have hzs2 := sys_sizes (sys_rules hsy)
      have HRo := Lib.hid (Rd.of_own hO2)
      have hL1 : 1 ≤ L := by omega
      have hL4 : L ≤ 4 := by omega
      clear hO2 hin
      have Hk2 := Lib.hid hk2
      clear hk2
      have Hzs2 := Lib.hid hzs2
      clear hzs2
      have Hsy := Lib.hid hsy
      clear hsy
      have bb := (Below.refl w19.heap.size w19).alloc (Nat.le_refl _) (.cells #[.int .i64 (L : Int), .slice B2 k2 d2] 25)
      have hNB := Bk.new w19 25 #[.int .i64 (L : Int), .slice B2 k2 d2]
      go_wp2_with fail
      obtain ⟨b_o, hbn⟩ : ∃ z, z = w19.heap.size := ⟨_, rfl⟩
      obtain ⟨w20, hwn⟩ : ∃ z, z = w19.alloc (.cells #[.int .i64 (L : Int), .slice B2 k2 d2] 25) := ⟨_, rfl⟩
      rw [← hwn] at bb
      rw [← hbn, ← hwn] at hNB
      rw [← hwn]
      try rw [← hbn]
      have HR_o_20 := Lib.hid (HRo.out.keep bb)
      clear HRo
      have HL_20 := Lib.hid (HL_19.out.trans (bb.mono HL_19.out.size))
      clear HL_19
      have HB_o_20 := Lib.hid hNB
      clear hNB bb
      have Hbn_o := Lib.hid hbn
      clear hbn hwn
      have c_o_0 : w20.cell? ⟨b_o, 0, none⟩ = some (.int .i64 (L : Int)) := by rw [HB_o_20.out.cell]; rfl
      have c_o_1 : w20.cell? ⟨b_o, 1, none⟩ = some (.slice B2 k2 d2) := by rw [HB_o_20.out.cell]; rfl
      have l_o := HB_o_20.out.lt
      (try go_wp2_with fail)
      with_reducible refine (HMv.out _ L HL_20.out hL1 hL4).mono ?_
      rintro e w21 ⟨v, hv5, hvL, rfl, bb⟩
      clear c_o_0 c_o_1 l_o
      have HB_o_21 := Lib.hid (HB_o_20.out.below bb HB_o_20.out.lt)
      clear HB_o_20
      have HR_o_21 := Lib.hid (HR_o_20.out.keep bb)
      clear HR_o_20
      have HL_21 := Lib.hid (HL_20.out.trans (bb.mono HL_20.out.size))
      clear HL_20
      clear bb
      have c_o_0 : w21.cell? ⟨b_o, 0, none⟩ = some (.int .i64 (L : Int)) := by rw [HB_o_21.out.cell]; rfl
      have c_o_1 : w21.cell? ⟨b_o, 1, none⟩ = some (.slice B2 k2 d2) := by rw [HB_o_21.out.cell]; rfl
      have l_o := HB_o_21.out.lt
      have hvw : wordOk (L : Int) v = true := wordOk_mk (by omega) (by omega) (by omega) hvL
      have hvb : v.size ≤ 1048576 := by omega
      have htk := takes_mk Hsy.out hvw
      obtain ⟨f, hf⟩ : ∃ f, f = normS rs2 v := ⟨_, rfl⟩
      have e1 : nfS (L : Int) rs2 v = f := by rw [nfS, if_pos htk, hf]
      have e2 : (runAll false (L : Int) rs2 v 500).2.2 = 3 ∨ ((runAll false (L : Int) rs2 v 500).2.2 = 0 ∧ (runAll false (L : Int) rs2 v 500).1 = normS rs2 v) := run_sys (m := 500) Hsy.out hvw (by omega)
      rw [← hf] at e2
      have e3 := ends_sys Hsy.out
      have e4 := runFar_zero (sys_rules Hsy.out) hvw
      clear hf hvL
      have E1 := Lib.hid e1
      clear e1
      have E2 := Lib.hid e2
      clear e2
      have E3 := Lib.hid e3
      clear e3
      have E4 := Lib.hid e4
      clear e4
      have Htk := Lib.hid htk
      clear htk
      have Hvw := Lib.hid hvw
      clear hvw
      (try go_wp2_with fail)
      with_reducible refine (implNormalForm_any (L : Int) B2 k2 d2 rs2 v _ HR_o_21.out Hk2.out hkb2 Hzs2.out hvb).mono ?_
      rintro e w22 ⟨rfl, bb⟩
      clear c_o_0 c_o_1 l_o
      have HB_o_22 := Lib.hid (HB_o_21.out.below bb HB_o_21.out.lt)
      clear HB_o_21
      have HR_o_22 := Lib.hid (HR_o_21.out.keep bb)
      clear HR_o_21
      have HL_22 := Lib.hid (HL_21.out.trans (bb.mono HL_21.out.size))
      clear HL_21
      clear bb
      have c_o_0 : w22.cell? ⟨b_o, 0, none⟩ = some (.int .i64 (L : Int)) := by rw [HB_o_22.out.cell]; rfl
      have c_o_1 : w22.cell? ⟨b_o, 1, none⟩ = some (.slice B2 k2 d2) := by rw [HB_o_22.out.cell]; rfl
      have l_o := HB_o_22.out.lt
      rw [E1.out, Htk.out]
      (try go_wp2_with fail)
      with_reducible refine (implRunFirst_any (L : Int) B2 k2 d2 rs2 v 500 _ HR_o_22.out Hk2.out hkb2 Hzs2.out hvb).mono ?_
      rintro e w23 ⟨rfl, bb⟩
      clear c_o_0 c_o_1 l_o
      have HB_o_23 := Lib.hid (HB_o_22.out.below bb HB_o_22.out.lt)
      clear HB_o_22
      have HR_o_23 := Lib.hid (HR_o_22.out.keep bb)
      clear HR_o_22
      have HL_23 := Lib.hid (HL_22.out.trans (bb.mono HL_22.out.size))
      clear HL_22
      clear bb
      have c_o_0 : w23.cell? ⟨b_o, 0, none⟩ = some (.int .i64 (L : Int)) := by rw [HB_o_23.out.cell]; rfl
      have c_o_1 : w23.cell? ⟨b_o, 1, none⟩ = some (.slice B2 k2 d2) := by rw [HB_o_23.out.cell]; rfl
      have l_o := HB_o_23.out.lt
      obtain ⟨⟨kw, kn, kc⟩, hk⟩ : ∃ z, z = runAll false (L : Int) rs2 v 500 := ⟨_, rfl⟩
      rw [← hk]
      have e_k : runV (kw, kn, kc) = .agg #[.string kw, .int .i64 kn, .int .i64 kc] := rfl
      rw [e_k]
      clear e_k
      have e5 := E2.out
      rw [← hk] at e5
      dsimp only at e5
      clear hk E2
      have E5 := Lib.hid e5
      clear e5
      rcases E5.out with h5 | ⟨h5, h6⟩
      · skip
        subst h5
        clear E5
        have bb := (Below.refl w23.heap.size w23).alloc (Nat.le_refl _) (.cells #[.string kw, .int .i64 kn, .int .i64 3] 67)
        have hNB := Bk.new w23 67 #[.string kw, .int .i64 kn, .int .i64 3]
        go_wp2_with fail
        obtain ⟨b_k, hbn⟩ : ∃ z, z = w23.heap.size := ⟨_, rfl⟩
        obtain ⟨w24, hwn⟩ : ∃ z, z = w23.alloc (.cells #[.string kw, .int .i64 kn, .int .i64 3] 67) := ⟨_, rfl⟩
        rw [← hwn] at bb
        rw [← hbn, ← hwn] at hNB
        rw [← hwn]
        try rw [← hbn]
        clear c_o_0 c_o_1 l_o
        have HB_o_24 := Lib.hid (HB_o_23.out.below bb HB_o_23.out.lt)
        clear HB_o_23
        have HR_o_24 := Lib.hid (HR_o_23.out.keep bb)
        clear HR_o_23
        have HL_24 := Lib.hid (HL_23.out.trans (bb.mono HL_23.out.size))
        clear HL_23
        have HB_k_24 := Lib.hid hNB
        clear hNB bb
        have Hbn_k := Lib.hid hbn
        clear hbn hwn
        have c_o_0 : w24.cell? ⟨b_o, 0, none⟩ = some (.int .i64 (L : Int)) := by rw [HB_o_24.out.cell]; rfl
        have c_o_1 : w24.cell? ⟨b_o, 1, none⟩ = some (.slice B2 k2 d2) := by rw [HB_o_24.out.cell]; rfl
        have l_o := HB_o_24.out.lt
        have c_k_0 : w24.cell? ⟨b_k, 0, none⟩ = some (.string kw) := by rw [HB_k_24.out.cell]; rfl
        have c_k_1 : w24.cell? ⟨b_k, 1, none⟩ = some (.int .i64 kn) := by rw [HB_k_24.out.cell]; rfl
        have c_k_2 : w24.cell? ⟨b_k, 2, none⟩ = some (.int .i64 3) := by rw [HB_k_24.out.cell]; rfl
        have l_k := HB_k_24.out.lt
        (try go_wp2_with fail)
        with_reducible refine (implEndsAlways_any (L : Int) B2 k2 d2 rs2 2 _ HR_o_24.out Hk2.out hkb2 Hzs2.out).mono ?_
        rintro e w25 ⟨rfl, bb⟩
        clear c_o_0 c_o_1 l_o c_k_0 c_k_1 c_k_2 l_k
        have HB_o_25 := Lib.hid (HB_o_24.out.below bb HB_o_24.out.lt)
        clear HB_o_24
        have HB_k_25 := Lib.hid (HB_k_24.out.below bb HB_k_24.out.lt)
        clear HB_k_24
        have HR_o_25 := Lib.hid (HR_o_24.out.keep bb)
        clear HR_o_24
        have HL_25 := Lib.hid (HL_24.out.trans (bb.mono HL_24.out.size))
        clear HL_24
        clear bb
        have c_o_0 : w25.cell? ⟨b_o, 0, none⟩ = some (.int .i64 (L : Int)) := by rw [HB_o_25.out.cell]; rfl
        have c_o_1 : w25.cell? ⟨b_o, 1, none⟩ = some (.slice B2 k2 d2) := by rw [HB_o_25.out.cell]; rfl
        have l_o := HB_o_25.out.lt
        have c_k_0 : w25.cell? ⟨b_k, 0, none⟩ = some (.string kw) := by rw [HB_k_25.out.cell]; rfl
        have c_k_1 : w25.cell? ⟨b_k, 1, none⟩ = some (.int .i64 kn) := by rw [HB_k_25.out.cell]; rfl
        have c_k_2 : w25.cell? ⟨b_k, 2, none⟩ = some (.int .i64 3) := by rw [HB_k_25.out.cell]; rfl
        have l_k := HB_k_25.out.lt
        rw [E3.out]
        obtain ⟨⟨gw, gn, gc⟩, hq⟩ : ∃ z, z = runAll true (L : Int) rs2 v 0 := ⟨_, rfl⟩
        have n6 := E4.out
        rw [← hq] at n6
        dsimp only at n6
        subst n6
        have eq_ : runV (gw, gn, gc) = .agg #[.string gw, .int .i64 gn, .int .i64 gc] := rfl
        have hfld : ∀ W, (Instr.field 67 (.agg #[.string gw, .int .i64 gn, .int .i64 gc]) 0).run Try.prog W = .ok (.string gw) W := fun W => rfl
        have Hq := Lib.hid hq
        clear hq
        (try go_wp2_with fail)
        with_reducible refine (implRunFar_any (L : Int) B2 k2 d2 rs2 gw 0 _ HR_o_25.out Hk2.out hkb2 Hzs2.out hvb).mono ?_
        rintro e w26 ⟨rfl, bb⟩
        clear c_o_0 c_o_1 l_o c_k_0 c_k_1 c_k_2 l_k
        have HB_o_26 := Lib.hid (HB_o_25.out.below bb HB_o_25.out.lt)
        clear HB_o_25
        have HB_k_26 := Lib.hid (HB_k_25.out.below bb HB_k_25.out.lt)
        clear HB_k_25
        have HR_o_26 := Lib.hid (HR_o_25.out.keep bb)
        clear HR_o_25
        have HL_26 := Lib.hid (HL_25.out.trans (bb.mono HL_25.out.size))
        clear HL_25
        clear bb
        have c_o_0 : w26.cell? ⟨b_o, 0, none⟩ = some (.int .i64 (L : Int)) := by rw [HB_o_26.out.cell]; rfl
        have c_o_1 : w26.cell? ⟨b_o, 1, none⟩ = some (.slice B2 k2 d2) := by rw [HB_o_26.out.cell]; rfl
        have l_o := HB_o_26.out.lt
        have c_k_0 : w26.cell? ⟨b_k, 0, none⟩ = some (.string kw) := by rw [HB_k_26.out.cell]; rfl
        have c_k_1 : w26.cell? ⟨b_k, 1, none⟩ = some (.int .i64 kn) := by rw [HB_k_26.out.cell]; rfl
        have c_k_2 : w26.cell? ⟨b_k, 2, none⟩ = some (.int .i64 3) := by rw [HB_k_26.out.cell]; rfl
        have l_k := HB_k_26.out.lt
        rw [← Hq.out, eq_]
        clear eq_
        go_wp2_with fail
        go_ret
        exact ⟨rfl, HL_26.out⟩
      · skip
        subst h5
        subst h6
        clear E5
        have bb := (Below.refl w23.heap.size w23).alloc (Nat.le_refl _) (.cells #[.string kw, .int .i64 kn, .int .i64 0] 67)
        have hNB := Bk.new w23 67 #[.string kw, .int .i64 kn, .int .i64 0]
        go_wp2_with fail
        obtain ⟨b_k, hbn⟩ : ∃ z, z = w23.heap.size := ⟨_, rfl⟩
        obtain ⟨w24, hwn⟩ : ∃ z, z = w23.alloc (.cells #[.string kw, .int .i64 kn, .int .i64 0] 67) := ⟨_, rfl⟩
        rw [← hwn] at bb
        rw [← hbn, ← hwn] at hNB
        rw [← hwn]
        try rw [← hbn]
        clear c_o_0 c_o_1 l_o
        have HB_o_24 := Lib.hid (HB_o_23.out.below bb HB_o_23.out.lt)
        clear HB_o_23
        have HR_o_24 := Lib.hid (HR_o_23.out.keep bb)
        clear HR_o_23
        have HL_24 := Lib.hid (HL_23.out.trans (bb.mono HL_23.out.size))
        clear HL_23
        have HB_k_24 := Lib.hid hNB
        clear hNB bb
        have Hbn_k := Lib.hid hbn
        clear hbn hwn
        have c_o_0 : w24.cell? ⟨b_o, 0, none⟩ = some (.int .i64 (L : Int)) := by rw [HB_o_24.out.cell]; rfl
        have c_o_1 : w24.cell? ⟨b_o, 1, none⟩ = some (.slice B2 k2 d2) := by rw [HB_o_24.out.cell]; rfl
        have l_o := HB_o_24.out.lt
        have c_k_0 : w24.cell? ⟨b_k, 0, none⟩ = some (.string kw) := by rw [HB_k_24.out.cell]; rfl
        have c_k_1 : w24.cell? ⟨b_k, 1, none⟩ = some (.int .i64 kn) := by rw [HB_k_24.out.cell]; rfl
        have c_k_2 : w24.cell? ⟨b_k, 2, none⟩ = some (.int .i64 0) := by rw [HB_k_24.out.cell]; rfl
        have l_k := HB_k_24.out.lt
        (try go_wp2_with fail)
        with_reducible refine (implEndsAlways_any (L : Int) B2 k2 d2 rs2 2 _ HR_o_24.out Hk2.out hkb2 Hzs2.out).mono ?_
        rintro e w25 ⟨rfl, bb⟩
        clear c_o_0 c_o_1 l_o c_k_0 c_k_1 c_k_2 l_k
        have HB_o_25 := Lib.hid (HB_o_24.out.below bb HB_o_24.out.lt)
        clear HB_o_24
        have HB_k_25 := Lib.hid (HB_k_24.out.below bb HB_k_24.out.lt)
        clear HB_k_24
        have HR_o_25 := Lib.hid (HR_o_24.out.keep bb)
        clear HR_o_24
        have HL_25 := Lib.hid (HL_24.out.trans (bb.mono HL_24.out.size))
        clear HL_24
        clear bb
        have c_o_0 : w25.cell? ⟨b_o, 0, none⟩ = some (.int .i64 (L : Int)) := by rw [HB_o_25.out.cell]; rfl
        have c_o_1 : w25.cell? ⟨b_o, 1, none⟩ = some (.slice B2 k2 d2) := by rw [HB_o_25.out.cell]; rfl
        have l_o := HB_o_25.out.lt
        have c_k_0 : w25.cell? ⟨b_k, 0, none⟩ = some (.string kw) := by rw [HB_k_25.out.cell]; rfl
        have c_k_1 : w25.cell? ⟨b_k, 1, none⟩ = some (.int .i64 kn) := by rw [HB_k_25.out.cell]; rfl
        have c_k_2 : w25.cell? ⟨b_k, 2, none⟩ = some (.int .i64 0) := by rw [HB_k_25.out.cell]; rfl
        have l_k := HB_k_25.out.lt
        rw [E3.out]
        obtain ⟨⟨gw, gn, gc⟩, hq⟩ : ∃ z, z = runAll true (L : Int) rs2 v 0 := ⟨_, rfl⟩
        have n6 := E4.out
        rw [← hq] at n6
        dsimp only at n6
        subst n6
        have eq_ : runV (gw, gn, gc) = .agg #[.string gw, .int .i64 gn, .int .i64 gc] := rfl
        have hfld : ∀ W, (Instr.field 67 (.agg #[.string gw, .int .i64 gn, .int .i64 gc]) 0).run Try.prog W = .ok (.string gw) W := fun W => rfl
        have Hq := Lib.hid hq
        clear hq
        (try go_wp2_with fail)
        with_reducible refine (implRunFar_any (L : Int) B2 k2 d2 rs2 gw 0 _ HR_o_25.out Hk2.out hkb2 Hzs2.out hvb).mono ?_
        rintro e w26 ⟨rfl, bb⟩
        clear c_o_0 c_o_1 l_o c_k_0 c_k_1 c_k_2 l_k
        have HB_o_26 := Lib.hid (HB_o_25.out.below bb HB_o_25.out.lt)
        clear HB_o_25
        have HB_k_26 := Lib.hid (HB_k_25.out.below bb HB_k_25.out.lt)
        clear HB_k_25
        have HR_o_26 := Lib.hid (HR_o_25.out.keep bb)
        clear HR_o_25
        have HL_26 := Lib.hid (HL_25.out.trans (bb.mono HL_25.out.size))
        clear HL_25
        clear bb
        have c_o_0 : w26.cell? ⟨b_o, 0, none⟩ = some (.int .i64 (L : Int)) := by rw [HB_o_26.out.cell]; rfl
        have c_o_1 : w26.cell? ⟨b_o, 1, none⟩ = some (.slice B2 k2 d2) := by rw [HB_o_26.out.cell]; rfl
        have l_o := HB_o_26.out.lt
        have c_k_0 : w26.cell? ⟨b_k, 0, none⟩ = some (.string kw) := by rw [HB_k_26.out.cell]; rfl
        have c_k_1 : w26.cell? ⟨b_k, 1, none⟩ = some (.int .i64 kn) := by rw [HB_k_26.out.cell]; rfl
        have c_k_2 : w26.cell? ⟨b_k, 2, none⟩ = some (.int .i64 0) := by rw [HB_k_26.out.cell]; rfl
        have l_k := HB_k_26.out.lt
        rw [← Hq.out, eq_]
        clear eq_
        go_wp2_with fail
        go_ret
        exact ⟨rfl, HL_26.out⟩
    · skip
      have n0 := L2.out h1
      subst n0
      clear L1 L2
      have r1b : (rc == 1) = false := by simp; exact h1
      go_wp2_with fail
      refine wp_region_held_drew (S := (fun W => W.cell? ⟨b_s, 0, none⟩ = some (.int .i64 2) ∧ W.cell? ⟨b_s, 1, none⟩ = some (.slice B k d) ∧ W.cell? ⟨b_r, 0, none⟩ = some (.string rw) ∧ W.cell? ⟨b_r, 1, none⟩ = some (.int .i64 rn) ∧ W.cell? ⟨b_r, 2, none⟩ = some (.int .i64 rc))) (by kernel_rfl) ((by exact ⟨c_s_0, c_s_1, c_r_0, c_r_1, c_r_2⟩)) (fun hHeld => ?_)
      refine wpAnyH_take (i := 0) (oi := ?oi1498) (v := ?val1498) ?hi1498 ?hs1498 ?hf1498 ?hr1498 ?hQ1498 ?hy1498 ?hS1498 ?hrest1498
      case hi1498 => (simp only [List.getElem?_toArray, List.getElem?_cons_succ, List.getElem?_cons_zero] <;> exact rfl)
      case hs1498 => kernel_rfl
      case hf1498 => kernel_rfl
      case hr1498 => kernel_rfl
      case hQ1498 => exact fun _ _ _ h => h
      case hS1498 => assumption
      case hy1498 => (refine Or.inl ⟨by rfl, ?_⟩; intro w hSw; (try dsimp only at hSw); obtain ⟨z0, z1, z2, z3, z4⟩ := hSw; go_simp; try with_reducible rfl)
      simp only [Act.put, List.setIfInBounds_toArray, List.set_cons_zero, List.set_cons_succ]
      refine wpAnyH_take (i := 1) (oi := ?oi1507) (v := ?val1507) ?hi1507 ?hs1507 ?hf1507 ?hr1507 ?hQ1507 ?hy1507 ?hS1507 ?hrest1507
      case hi1507 => (simp only [List.getElem?_toArray, List.getElem?_cons_succ, List.getElem?_cons_zero] <;> exact rfl)
      case hs1507 => kernel_rfl
      case hf1507 => kernel_rfl
      case hr1507 => kernel_rfl
      case hQ1507 => exact fun _ _ _ h => h
      case hS1507 => assumption
      case hy1507 => (refine Or.inl ⟨by rfl, ?_⟩; intro w hSw; (try dsimp only at hSw); obtain ⟨z0, z1, z2, z3, z4⟩ := hSw; go_simp; try with_reducible rfl)
      simp only [Act.put, List.setIfInBounds_toArray, List.set_cons_zero, List.set_cons_succ]
      refine wpAnyH_take (i := 2) (oi := ?oi1516) (v := ?val1516) ?hi1516 ?hs1516 ?hf1516 ?hr1516 ?hQ1516 ?hy1516 ?hS1516 ?hrest1516
      case hi1516 => (simp only [List.getElem?_toArray, List.getElem?_cons_succ, List.getElem?_cons_zero] <;> exact rfl)
      case hs1516 => kernel_rfl
      case hf1516 => kernel_rfl
      case hr1516 => kernel_rfl
      case hQ1516 => exact fun _ _ _ h => h
      case hS1516 => assumption
      case hy1516 => (refine Or.inl ⟨by rfl, ?_⟩; intro w hSw; (try dsimp only at hSw); obtain ⟨z0, z1, z2, z3, z4⟩ := hSw; go_simp; try with_reducible rfl)
      simp only [Act.put, List.setIfInBounds_toArray, List.set_cons_zero, List.set_cons_succ]
      refine wpAnyH_take (i := 3) (oi := ?oi1525) (v := ?val1525) ?hi1525 ?hs1525 ?hf1525 ?hr1525 ?hQ1525 ?hy1525 ?hS1525 ?hrest1525
      case hi1525 => (simp only [List.getElem?_toArray, List.getElem?_cons_succ, List.getElem?_cons_zero] <;> exact rfl)
      case hs1525 => kernel_rfl
      case hf1525 => kernel_rfl
      case hr1525 => kernel_rfl
      case hQ1525 => exact fun _ _ _ h => h
      case hS1525 => assumption
      case hy1525 => (refine Or.inl ⟨by rfl, ?_⟩; intro w hSw; (try dsimp only at hSw); obtain ⟨z0, z1, z2, z3, z4⟩ := hSw; go_simp; try with_reducible rfl)
      simp only [Act.put, List.setIfInBounds_toArray, List.set_cons_zero, List.set_cons_succ]
      refine wpAnyH_take (i := 4) (oi := ?oi1534) (v := ?val1534) ?hi1534 ?hs1534 ?hf1534 ?hr1534 ?hQ1534 ?hy1534 ?hS1534 ?hrest1534
      case hi1534 => (simp only [List.getElem?_toArray, List.getElem?_cons_succ, List.getElem?_cons_zero] <;> exact rfl)
      case hs1534 => kernel_rfl
      case hf1534 => kernel_rfl
      case hr1534 => kernel_rfl
      case hQ1534 => exact fun _ _ _ h => h
      case hS1534 => assumption
      case hy1534 => (refine Or.inl ⟨by rfl, ?_⟩; intro w hSw; (try dsimp only at hSw); obtain ⟨z0, z1, z2, z3, z4⟩ := hSw; go_simp; try with_reducible rfl)
      simp only [Act.put, List.setIfInBounds_toArray, List.set_cons_zero, List.set_cons_succ]
      refine wpAnyH_take (i := 5) (oi := ?oi1543) (v := ?val1543) ?hi1543 ?hs1543 ?hf1543 ?hr1543 ?hQ1543 ?hy1543 ?hS1543 ?hrest1543
      case hi1543 => (simp only [List.getElem?_toArray, List.getElem?_cons_succ, List.getElem?_cons_zero] <;> exact rfl)
      case hs1543 => kernel_rfl
      case hf1543 => kernel_rfl
      case hr1543 => kernel_rfl
      case hQ1543 => exact fun _ _ _ h => h
      case hS1543 => assumption
      case hy1543 => (refine Or.inl ⟨by rfl, ?_⟩; intro w hSw; (try dsimp only at hSw); obtain ⟨z0, z1, z2, z3, z4⟩ := hSw; go_simp; try with_reducible rfl)
      simp only [Act.put, List.setIfInBounds_toArray, List.set_cons_zero, List.set_cons_succ]
      refine wpAnyH_take (i := 6) (oi := ?oi1552) (v := ?val1552) ?hi1552 ?hs1552 ?hf1552 ?hr1552 ?hQ1552 ?hy1552 ?hS1552 ?hrest1552
      case hi1552 => (simp only [List.getElem?_toArray, List.getElem?_cons_succ, List.getElem?_cons_zero] <;> exact rfl)
      case hs1552 => kernel_rfl
      case hf1552 => kernel_rfl
      case hr1552 => kernel_rfl
      case hQ1552 => exact fun _ _ _ h => h
      case hS1552 => assumption
      case hy1552 => (refine Or.inl ⟨by rfl, ?_⟩; intro w hSw; (try dsimp only at hSw); obtain ⟨z0, z1, z2, z3, z4⟩ := hSw; go_simp; try with_reducible rfl)
      simp only [Act.put, List.setIfInBounds_toArray, List.set_cons_zero, List.set_cons_succ]
      refine wpAnyH_take (i := 7) (oi := ?oi1561) (v := ?val1561) ?hi1561 ?hs1561 ?hf1561 ?hr1561 ?hQ1561 ?hy1561 ?hS1561 ?hrest1561
      case hi1561 => (simp only [List.getElem?_toArray, List.getElem?_cons_succ, List.getElem?_cons_zero] <;> exact rfl)
      case hs1561 => kernel_rfl
      case hf1561 => kernel_rfl
      case hr1561 => kernel_rfl
      case hQ1561 => exact fun _ _ _ h => h
      case hS1561 => assumption
      case hy1561 => (refine Or.inl ⟨by rfl, ?_⟩; intro w hSw; (try dsimp only at hSw); obtain ⟨z0, z1, z2, z3, z4⟩ := hSw; go_simp; try with_reducible rfl)
      simp only [Act.put, List.setIfInBounds_toArray, List.set_cons_zero, List.set_cons_succ]
      refine wpAnyH_take (i := 8) (oi := ?oi1570) (v := ?val1570) ?hi1570 ?hs1570 ?hf1570 ?hr1570 ?hQ1570 ?hy1570 ?hS1570 ?hrest1570
      case hi1570 => (simp only [List.getElem?_toArray, List.getElem?_cons_succ, List.getElem?_cons_zero] <;> exact rfl)
      case hs1570 => kernel_rfl
      case hf1570 => kernel_rfl
      case hr1570 => kernel_rfl
      case hQ1570 => exact fun _ _ _ h => h
      case hS1570 => assumption
      case hy1570 => (refine Or.inl ⟨by rfl, ?_⟩; intro w hSw; (try dsimp only at hSw); obtain ⟨z0, z1, z2, z3, z4⟩ := hSw; go_simp; try with_reducible rfl)
      simp only [Act.put, List.setIfInBounds_toArray, List.set_cons_zero, List.set_cons_succ]
      refine wpAnyH_take (i := 10) (oi := ?oi1579) (v := ?val1579) ?hi1579 ?hs1579 ?hf1579 ?hr1579 ?hQ1579 ?hy1579 ?hS1579 ?hrest1579
      case hi1579 => (simp only [List.getElem?_toArray, List.getElem?_cons_succ, List.getElem?_cons_zero] <;> exact rfl)
      case hs1579 => kernel_rfl
      case hf1579 => kernel_rfl
      case hr1579 => kernel_rfl
      case hQ1579 => exact fun _ _ _ h => h
      case hS1579 => assumption
      case hy1579 => (refine Or.inl ⟨by rfl, ?_⟩; intro w hSw; (try dsimp only at hSw); obtain ⟨z0, z1, z2, z3, z4⟩ := hSw; go_simp; try with_reducible rfl)
      simp only [Act.put, List.setIfInBounds_toArray, List.set_cons_zero, List.set_cons_succ]
      refine wpAnyH_take (i := 11) (oi := ?oi1588) (v := ?val1588) ?hi1588 ?hs1588 ?hf1588 ?hr1588 ?hQ1588 ?hy1588 ?hS1588 ?hrest1588
      case hi1588 => (simp only [List.getElem?_toArray, List.getElem?_cons_succ, List.getElem?_cons_zero] <;> exact rfl)
      case hs1588 => kernel_rfl
      case hf1588 => kernel_rfl
      case hr1588 => kernel_rfl
      case hQ1588 => exact fun _ _ _ h => h
      case hS1588 => assumption
      case hy1588 => (refine Or.inl ⟨by rfl, ?_⟩; intro w hSw; (try dsimp only at hSw); obtain ⟨z0, z1, z2, z3, z4⟩ := hSw; go_simp; try with_reducible rfl)
      simp only [Act.put, List.setIfInBounds_toArray, List.set_cons_zero, List.set_cons_succ]
      refine wpAnyH_take (i := 12) (oi := ?oi1597) (v := ?val1597) ?hi1597 ?hs1597 ?hf1597 ?hr1597 ?hQ1597 ?hy1597 ?hS1597 ?hrest1597
      case hi1597 => (simp only [List.getElem?_toArray, List.getElem?_cons_succ, List.getElem?_cons_zero] <;> exact rfl)
      case hs1597 => kernel_rfl
      case hf1597 => kernel_rfl
      case hr1597 => kernel_rfl
      case hQ1597 => exact fun _ _ _ h => h
      case hS1597 => assumption
      case hy1597 => (refine Or.inl ⟨by rfl, ?_⟩; intro w hSw; (try dsimp only at hSw); obtain ⟨z0, z1, z2, z3, z4⟩ := hSw; go_simp; try with_reducible rfl)
      simp only [Act.put, List.setIfInBounds_toArray, List.set_cons_zero, List.set_cons_succ]
      refine wpAnyH_ready (rs := [9]) (by kernel_rfl) (by simp) ?_
      refine AllReadyH.cons rfl (fun K hK => ?_) AllReadyH.nil
      (go_simp; (with_reducible refine (implGrowsOn_any 2 B k d rs s _ (Rd.drew HR_s_16.out) Hk.out hkb Hzs.out hsb).mono ?_); rintro e w17 ⟨rfl, bb⟩; have bd := ((Below.refl w16.heap.size w16).drew).trans bb; rw [Hgr.out]; have hQ_s := HB_s_16.out.below bd HB_s_16.out.lt; have hQ_r := HB_r_16.out.below bd HB_r_16.out.lt)
      refine hK.out _ _ ((by exact ⟨by rw [hQ_s.cell]; rfl, by rw [hQ_s.cell]; rfl, by rw [hQ_r.cell]; rfl, by rw [hQ_r.cell]; rfl, by rw [hQ_r.cell]; rfl⟩)) (fun hHeld2 => ?_)
      clear hK K hHeld
      have hHeld := hHeld2
      clear hHeld2
      first | simp only [Act.put, List.setIfInBounds_toArray, List.set_cons_zero, List.set_cons_succ] | skip
      clear hQ_s hQ_r
      refine wpAnyH_take (i := 13) (oi := ?oi1615) (v := ?val1615) ?hi1615 ?hs1615 ?hf1615 ?hr1615 ?hQ1615 ?hy1615 ?hS1615 ?hrest1615
      case hi1615 => (simp only [List.getElem?_toArray, List.getElem?_cons_succ, List.getElem?_cons_zero] <;> exact rfl)
      case hs1615 => kernel_rfl
      case hf1615 => kernel_rfl
      case hr1615 => kernel_rfl
      case hQ1615 => exact fun _ _ _ h => h
      case hS1615 => assumption
      case hy1615 => (refine Or.inl ⟨by rfl, ?_⟩; intro w hSw; (try dsimp only at hSw); obtain ⟨z0, z1, z2, z3, z4⟩ := hSw; go_simp; try with_reducible rfl)
      simp only [Act.put, List.setIfInBounds_toArray, List.set_cons_zero, List.set_cons_succ]
      refine wpAnyH_take (i := 14) (oi := ?oi1624) (v := ?val1624) ?hi1624 ?hs1624 ?hf1624 ?hr1624 ?hQ1624 ?hy1624 ?hS1624 ?hrest1624
      case hi1624 => (simp only [List.getElem?_toArray, List.getElem?_cons_succ, List.getElem?_cons_zero] <;> exact rfl)
      case hs1624 => kernel_rfl
      case hf1624 => kernel_rfl
      case hr1624 => kernel_rfl
      case hQ1624 => exact fun _ _ _ h => h
      case hS1624 => assumption
      case hy1624 => (refine Or.inl ⟨by rfl, ?_⟩; intro w hSw; (try dsimp only at hSw); obtain ⟨z0, z1, z2, z3, z4⟩ := hSw; go_simp; try with_reducible rfl)
      simp only [Act.put, List.setIfInBounds_toArray, List.set_cons_zero, List.set_cons_succ]
      refine wpAnyH_done (by kernel_rfl) ?_ _
      clear hHeld bb
      clear c_s_0 c_s_1 l_s c_x_0 c_x_1 c_x_2 l_x c_y_0 c_y_1 c_y_2 l_y c_z_0 c_z_1 c_z_2 l_z c_r_0 c_r_1 c_r_2 l_r
      have HB_s_17 := Lib.hid (HB_s_16.out.below bd HB_s_16.out.lt)
      clear HB_s_16
      have HB_x_17 := Lib.hid (HB_x_16.out.below bd HB_x_16.out.lt)
      clear HB_x_16
      have HB_y_17 := Lib.hid (HB_y_16.out.below bd HB_y_16.out.lt)
      clear HB_y_16
      have HB_z_17 := Lib.hid (HB_z_16.out.below bd HB_z_16.out.lt)
      clear HB_z_16
      have HB_r_17 := Lib.hid (HB_r_16.out.below bd HB_r_16.out.lt)
      clear HB_r_16
      have HR_s_17 := Lib.hid (HR_s_16.out.keep bd)
      clear HR_s_16
      have HL_17 := Lib.hid (HL_16.out.trans (bd.mono HL_16.out.size))
      clear HL_16
      clear bd
      have c_s_0 : w17.cell? ⟨b_s, 0, none⟩ = some (.int .i64 2) := by rw [HB_s_17.out.cell]; rfl
      have c_s_1 : w17.cell? ⟨b_s, 1, none⟩ = some (.slice B k d) := by rw [HB_s_17.out.cell]; rfl
      have l_s := HB_s_17.out.lt
      have c_x_0 : w17.cell? ⟨b_x, 0, none⟩ = some (.string xw) := by rw [HB_x_17.out.cell]; rfl
      have c_x_1 : w17.cell? ⟨b_x, 1, none⟩ = some (.int .i64 (N : Int)) := by rw [HB_x_17.out.cell]; rfl
      have c_x_2 : w17.cell? ⟨b_x, 2, none⟩ = some (.int .i64 3) := by rw [HB_x_17.out.cell]; rfl
      have l_x := HB_x_17.out.lt
      have c_y_0 : w17.cell? ⟨b_y, 0, none⟩ = some (.string zw) := by rw [HB_y_17.out.cell]; rfl
      have c_y_1 : w17.cell? ⟨b_y, 1, none⟩ = some (.int .i64 (zn + (a : Int))) := by rw [HB_y_17.out.cell]; rfl
      have c_y_2 : w17.cell? ⟨b_y, 2, none⟩ = some (.int .i64 zc) := by rw [HB_y_17.out.cell]; rfl
      have l_y := HB_y_17.out.lt
      have c_z_0 : w17.cell? ⟨b_z, 0, none⟩ = some (.string zw) := by rw [HB_z_17.out.cell]; rfl
      have c_z_1 : w17.cell? ⟨b_z, 1, none⟩ = some (.int .i64 zn) := by rw [HB_z_17.out.cell]; rfl
      have c_z_2 : w17.cell? ⟨b_z, 2, none⟩ = some (.int .i64 zc) := by rw [HB_z_17.out.cell]; rfl
      have l_z := HB_z_17.out.lt
      have c_r_0 : w17.cell? ⟨b_r, 0, none⟩ = some (.string rw) := by rw [HB_r_17.out.cell]; rfl
      have c_r_1 : w17.cell? ⟨b_r, 1, none⟩ = some (.int .i64 rn) := by rw [HB_r_17.out.cell]; rfl
      have c_r_2 : w17.cell? ⟨b_r, 2, none⟩ = some (.int .i64 rc) := by rw [HB_r_17.out.cell]; rfl
      have l_r := HB_r_17.out.lt
      go_wp2_with fail
      go_region
      obtain ⟨w18, hwn⟩ : ∃ z, z = w17.drew := ⟨_, rfl⟩
      have bb := (Below.refl w17.heap.size w17).drew
      rw [← hwn] at bb
      rw [← hwn]
      clear c_s_0 c_s_1 l_s c_x_0 c_x_1 c_x_2 l_x c_y_0 c_y_1 c_y_2 l_y c_z_0 c_z_1 c_z_2 l_z c_r_0 c_r_1 c_r_2 l_r
      have HB_s_18 := Lib.hid (HB_s_17.out.below bb HB_s_17.out.lt)
      clear HB_s_17
      have HB_x_18 := Lib.hid (HB_x_17.out.below bb HB_x_17.out.lt)
      clear HB_x_17
      have HB_y_18 := Lib.hid (HB_y_17.out.below bb HB_y_17.out.lt)
      clear HB_y_17
      have HB_z_18 := Lib.hid (HB_z_17.out.below bb HB_z_17.out.lt)
      clear HB_z_17
      have HB_r_18 := Lib.hid (HB_r_17.out.below bb HB_r_17.out.lt)
      clear HB_r_17
      have HR_s_18 := Lib.hid (HR_s_17.out.keep bb)
      clear HR_s_17
      have HL_18 := Lib.hid (HL_17.out.trans (bb.mono HL_17.out.size))
      clear HL_17
      clear bb hwn
      have c_s_0 : w18.cell? ⟨b_s, 0, none⟩ = some (.int .i64 2) := by rw [HB_s_18.out.cell]; rfl
      have c_s_1 : w18.cell? ⟨b_s, 1, none⟩ = some (.slice B k d) := by rw [HB_s_18.out.cell]; rfl
      have l_s := HB_s_18.out.lt
      have c_x_0 : w18.cell? ⟨b_x, 0, none⟩ = some (.string xw) := by rw [HB_x_18.out.cell]; rfl
      have c_x_1 : w18.cell? ⟨b_x, 1, none⟩ = some (.int .i64 (N : Int)) := by rw [HB_x_18.out.cell]; rfl
      have c_x_2 : w18.cell? ⟨b_x, 2, none⟩ = some (.int .i64 3) := by rw [HB_x_18.out.cell]; rfl
      have l_x := HB_x_18.out.lt
      have c_y_0 : w18.cell? ⟨b_y, 0, none⟩ = some (.string zw) := by rw [HB_y_18.out.cell]; rfl
      have c_y_1 : w18.cell? ⟨b_y, 1, none⟩ = some (.int .i64 (zn + (a : Int))) := by rw [HB_y_18.out.cell]; rfl
      have c_y_2 : w18.cell? ⟨b_y, 2, none⟩ = some (.int .i64 zc) := by rw [HB_y_18.out.cell]; rfl
      have l_y := HB_y_18.out.lt
      have c_z_0 : w18.cell? ⟨b_z, 0, none⟩ = some (.string zw) := by rw [HB_z_18.out.cell]; rfl
      have c_z_1 : w18.cell? ⟨b_z, 1, none⟩ = some (.int .i64 zn) := by rw [HB_z_18.out.cell]; rfl
      have c_z_2 : w18.cell? ⟨b_z, 2, none⟩ = some (.int .i64 zc) := by rw [HB_z_18.out.cell]; rfl
      have l_z := HB_z_18.out.lt
      have c_r_0 : w18.cell? ⟨b_r, 0, none⟩ = some (.string rw) := by rw [HB_r_18.out.cell]; rfl
      have c_r_1 : w18.cell? ⟨b_r, 1, none⟩ = some (.int .i64 rn) := by rw [HB_r_18.out.cell]; rfl
      have c_r_2 : w18.cell? ⟨b_r, 2, none⟩ = some (.int .i64 rc) := by rw [HB_r_18.out.cell]; rfl
      have l_r := HB_r_18.out.lt
      clear c_s_0 c_s_1 l_s c_x_0 c_x_1 c_x_2 l_x c_y_0 c_y_1 c_y_2 l_y c_z_0 c_z_1 c_z_2 l_z c_r_0 c_r_1 c_r_2 l_r
      clear HB_s_18
      clear HB_x_18
      clear HB_y_18
      clear HB_z_18
      clear HB_r_18
      clear HR_s_18
      (try go_wp2_with fail)
      with_reducible refine (HMo.out _ HL_18.out).mono ?_
      rintro e w19 ⟨l2, B2, k2, d2, rs2, hsy, hk2, rfl, hO2, bb⟩
      have HL_19 := Lib.hid (HL_18.out.trans (bb.mono HL_18.out.size))
      clear HL_18
      clear bb
      have hin := sys_in hsy
      obtain ⟨L, rfl⟩ : ∃ L : Nat, l2 = (L : Int) := ⟨l2.toNat, by omega⟩
      have hkb2 : k2 ≤ 1048576 := by omega
      have hzs2 := sys_sizes (sys_rules hsy)
      have HRo := Lib.hid (Rd.of_own hO2)
      have hL1 : 1 ≤ L := by omega
      have hL4 : L ≤ 4 := by omega
      clear hO2 hin
      have Hk2 := Lib.hid hk2
      clear hk2
      have Hzs2 := Lib.hid hzs2
      clear hzs2
      have Hsy := Lib.hid hsy
      clear hsy
      have bb := (Below.refl w19.heap.size w19).alloc (Nat.le_refl _) (.cells #[.int .i64 (L : Int), .slice B2 k2 d2] 25)
      have hNB := Bk.new w19 25 #[.int .i64 (L : Int), .slice B2 k2 d2]
      go_wp2_with fail
      obtain ⟨b_o, hbn⟩ : ∃ z, z = w19.heap.size := ⟨_, rfl⟩
      obtain ⟨w20, hwn⟩ : ∃ z, z = w19.alloc (.cells #[.int .i64 (L : Int), .slice B2 k2 d2] 25) := ⟨_, rfl⟩
      rw [← hwn] at bb
      rw [← hbn, ← hwn] at hNB
      rw [← hwn]
      try rw [← hbn]
      have HR_o_20 := Lib.hid (HRo.out.keep bb)
      clear HRo
      have HL_20 := Lib.hid (HL_19.out.trans (bb.mono HL_19.out.size))
      clear HL_19
      have HB_o_20 := Lib.hid hNB
      clear hNB bb
      have Hbn_o := Lib.hid hbn
      clear hbn hwn
      have c_o_0 : w20.cell? ⟨b_o, 0, none⟩ = some (.int .i64 (L : Int)) := by rw [HB_o_20.out.cell]; rfl
      have c_o_1 : w20.cell? ⟨b_o, 1, none⟩ = some (.slice B2 k2 d2) := by rw [HB_o_20.out.cell]; rfl
      have l_o := HB_o_20.out.lt
      (try go_wp2_with fail)
      with_reducible refine (HMv.out _ L HL_20.out hL1 hL4).mono ?_
      rintro e w21 ⟨v, hv5, hvL, rfl, bb⟩
      clear c_o_0 c_o_1 l_o
      have HB_o_21 := Lib.hid (HB_o_20.out.below bb HB_o_20.out.lt)
      clear HB_o_20
      have HR_o_21 := Lib.hid (HR_o_20.out.keep bb)
      clear HR_o_20
      have HL_21 := Lib.hid (HL_20.out.trans (bb.mono HL_20.out.size))
      clear HL_20
      clear bb
      have c_o_0 : w21.cell? ⟨b_o, 0, none⟩ = some (.int .i64 (L : Int)) := by rw [HB_o_21.out.cell]; rfl
      have c_o_1 : w21.cell? ⟨b_o, 1, none⟩ = some (.slice B2 k2 d2) := by rw [HB_o_21.out.cell]; rfl
      have l_o := HB_o_21.out.lt
      have hvw : wordOk (L : Int) v = true := wordOk_mk (by omega) (by omega) (by omega) hvL
      have hvb : v.size ≤ 1048576 := by omega
      have htk := takes_mk Hsy.out hvw
      obtain ⟨f, hf⟩ : ∃ f, f = normS rs2 v := ⟨_, rfl⟩
      have e1 : nfS (L : Int) rs2 v = f := by rw [nfS, if_pos htk, hf]
      have e2 : (runAll false (L : Int) rs2 v 500).2.2 = 3 ∨ ((runAll false (L : Int) rs2 v 500).2.2 = 0 ∧ (runAll false (L : Int) rs2 v 500).1 = normS rs2 v) := run_sys (m := 500) Hsy.out hvw (by omega)
      rw [← hf] at e2
      have e3 := ends_sys Hsy.out
      have e4 := runFar_zero (sys_rules Hsy.out) hvw
      clear hf hvL
      have E1 := Lib.hid e1
      clear e1
      have E2 := Lib.hid e2
      clear e2
      have E3 := Lib.hid e3
      clear e3
      have E4 := Lib.hid e4
      clear e4
      have Htk := Lib.hid htk
      clear htk
      have Hvw := Lib.hid hvw
      clear hvw
      (try go_wp2_with fail)
      with_reducible refine (implNormalForm_any (L : Int) B2 k2 d2 rs2 v _ HR_o_21.out Hk2.out hkb2 Hzs2.out hvb).mono ?_
      rintro e w22 ⟨rfl, bb⟩
      clear c_o_0 c_o_1 l_o
      have HB_o_22 := Lib.hid (HB_o_21.out.below bb HB_o_21.out.lt)
      clear HB_o_21
      have HR_o_22 := Lib.hid (HR_o_21.out.keep bb)
      clear HR_o_21
      have HL_22 := Lib.hid (HL_21.out.trans (bb.mono HL_21.out.size))
      clear HL_21
      clear bb
      have c_o_0 : w22.cell? ⟨b_o, 0, none⟩ = some (.int .i64 (L : Int)) := by rw [HB_o_22.out.cell]; rfl
      have c_o_1 : w22.cell? ⟨b_o, 1, none⟩ = some (.slice B2 k2 d2) := by rw [HB_o_22.out.cell]; rfl
      have l_o := HB_o_22.out.lt
      rw [E1.out, Htk.out]
      (try go_wp2_with fail)
      with_reducible refine (implRunFirst_any (L : Int) B2 k2 d2 rs2 v 500 _ HR_o_22.out Hk2.out hkb2 Hzs2.out hvb).mono ?_
      rintro e w23 ⟨rfl, bb⟩
      clear c_o_0 c_o_1 l_o
      have HB_o_23 := Lib.hid (HB_o_22.out.below bb HB_o_22.out.lt)
      clear HB_o_22
      have HR_o_23 := Lib.hid (HR_o_22.out.keep bb)
      clear HR_o_22
      have HL_23 := Lib.hid (HL_22.out.trans (bb.mono HL_22.out.size))
      clear HL_22
      clear bb
      have c_o_0 : w23.cell? ⟨b_o, 0, none⟩ = some (.int .i64 (L : Int)) := by rw [HB_o_23.out.cell]; rfl
      have c_o_1 : w23.cell? ⟨b_o, 1, none⟩ = some (.slice B2 k2 d2) := by rw [HB_o_23.out.cell]; rfl
      have l_o := HB_o_23.out.lt
      obtain ⟨⟨kw, kn, kc⟩, hk⟩ : ∃ z, z = runAll false (L : Int) rs2 v 500 := ⟨_, rfl⟩
      rw [← hk]
      have e_k : runV (kw, kn, kc) = .agg #[.string kw, .int .i64 kn, .int .i64 kc] := rfl
      rw [e_k]
      clear e_k
      have e5 := E2.out
      rw [← hk] at e5
      dsimp only at e5
      clear hk E2
      have E5 := Lib.hid e5
      clear e5
      rcases E5.out with h5 | ⟨h5, h6⟩
      · skip
        subst h5
        clear E5
        have bb := (Below.refl w23.heap.size w23).alloc (Nat.le_refl _) (.cells #[.string kw, .int .i64 kn, .int .i64 3] 67)
        have hNB := Bk.new w23 67 #[.string kw, .int .i64 kn, .int .i64 3]
        go_wp2_with fail
        obtain ⟨b_k, hbn⟩ : ∃ z, z = w23.heap.size := ⟨_, rfl⟩
        obtain ⟨w24, hwn⟩ : ∃ z, z = w23.alloc (.cells #[.string kw, .int .i64 kn, .int .i64 3] 67) := ⟨_, rfl⟩
        rw [← hwn] at bb
        rw [← hbn, ← hwn] at hNB
        rw [← hwn]
        try rw [← hbn]
        clear c_o_0 c_o_1 l_o
        have HB_o_24 := Lib.hid (HB_o_23.out.below bb HB_o_23.out.lt)
        clear HB_o_23
        have HR_o_24 := Lib.hid (HR_o_23.out.keep bb)
        clear HR_o_23
        have HL_24 := Lib.hid (HL_23.out.trans (bb.mono HL_23.out.size))
        clear HL_23
        have HB_k_24 := Lib.hid hNB
        clear hNB bb
        have Hbn_k := Lib.hid hbn
        clear hbn hwn
        have c_o_0 : w24.cell? ⟨b_o, 0, none⟩ = some (.int .i64 (L : Int)) := by rw [HB_o_24.out.cell]; rfl
        have c_o_1 : w24.cell? ⟨b_o, 1, none⟩ = some (.slice B2 k2 d2) := by rw [HB_o_24.out.cell]; rfl
        have l_o := HB_o_24.out.lt
        have c_k_0 : w24.cell? ⟨b_k, 0, none⟩ = some (.string kw) := by rw [HB_k_24.out.cell]; rfl
        have c_k_1 : w24.cell? ⟨b_k, 1, none⟩ = some (.int .i64 kn) := by rw [HB_k_24.out.cell]; rfl
        have c_k_2 : w24.cell? ⟨b_k, 2, none⟩ = some (.int .i64 3) := by rw [HB_k_24.out.cell]; rfl
        have l_k := HB_k_24.out.lt
        (try go_wp2_with fail)
        with_reducible refine (implEndsAlways_any (L : Int) B2 k2 d2 rs2 2 _ HR_o_24.out Hk2.out hkb2 Hzs2.out).mono ?_
        rintro e w25 ⟨rfl, bb⟩
        clear c_o_0 c_o_1 l_o c_k_0 c_k_1 c_k_2 l_k
        have HB_o_25 := Lib.hid (HB_o_24.out.below bb HB_o_24.out.lt)
        clear HB_o_24
        have HB_k_25 := Lib.hid (HB_k_24.out.below bb HB_k_24.out.lt)
        clear HB_k_24
        have HR_o_25 := Lib.hid (HR_o_24.out.keep bb)
        clear HR_o_24
        have HL_25 := Lib.hid (HL_24.out.trans (bb.mono HL_24.out.size))
        clear HL_24
        clear bb
        have c_o_0 : w25.cell? ⟨b_o, 0, none⟩ = some (.int .i64 (L : Int)) := by rw [HB_o_25.out.cell]; rfl
        have c_o_1 : w25.cell? ⟨b_o, 1, none⟩ = some (.slice B2 k2 d2) := by rw [HB_o_25.out.cell]; rfl
        have l_o := HB_o_25.out.lt
        have c_k_0 : w25.cell? ⟨b_k, 0, none⟩ = some (.string kw) := by rw [HB_k_25.out.cell]; rfl
        have c_k_1 : w25.cell? ⟨b_k, 1, none⟩ = some (.int .i64 kn) := by rw [HB_k_25.out.cell]; rfl
        have c_k_2 : w25.cell? ⟨b_k, 2, none⟩ = some (.int .i64 3) := by rw [HB_k_25.out.cell]; rfl
        have l_k := HB_k_25.out.lt
        rw [E3.out]
        obtain ⟨⟨gw, gn, gc⟩, hq⟩ : ∃ z, z = runAll true (L : Int) rs2 v 0 := ⟨_, rfl⟩
        have n6 := E4.out
        rw [← hq] at n6
        dsimp only at n6
        subst n6
        have eq_ : runV (gw, gn, gc) = .agg #[.string gw, .int .i64 gn, .int .i64 gc] := rfl
        have hfld : ∀ W, (Instr.field 67 (.agg #[.string gw, .int .i64 gn, .int .i64 gc]) 0).run Try.prog W = .ok (.string gw) W := fun W => rfl
        have Hq := Lib.hid hq
        clear hq
        (try go_wp2_with fail)
        with_reducible refine (implRunFar_any (L : Int) B2 k2 d2 rs2 gw 0 _ HR_o_25.out Hk2.out hkb2 Hzs2.out hvb).mono ?_
        rintro e w26 ⟨rfl, bb⟩
        clear c_o_0 c_o_1 l_o c_k_0 c_k_1 c_k_2 l_k
        have HB_o_26 := Lib.hid (HB_o_25.out.below bb HB_o_25.out.lt)
        clear HB_o_25
        have HB_k_26 := Lib.hid (HB_k_25.out.below bb HB_k_25.out.lt)
        clear HB_k_25
        have HR_o_26 := Lib.hid (HR_o_25.out.keep bb)
        clear HR_o_25
        have HL_26 := Lib.hid (HL_25.out.trans (bb.mono HL_25.out.size))
        clear HL_25
        clear bb
        have c_o_0 : w26.cell? ⟨b_o, 0, none⟩ = some (.int .i64 (L : Int)) := by rw [HB_o_26.out.cell]; rfl
        have c_o_1 : w26.cell? ⟨b_o, 1, none⟩ = some (.slice B2 k2 d2) := by rw [HB_o_26.out.cell]; rfl
        have l_o := HB_o_26.out.lt
        have c_k_0 : w26.cell? ⟨b_k, 0, none⟩ = some (.string kw) := by rw [HB_k_26.out.cell]; rfl
        have c_k_1 : w26.cell? ⟨b_k, 1, none⟩ = some (.int .i64 kn) := by rw [HB_k_26.out.cell]; rfl
        have c_k_2 : w26.cell? ⟨b_k, 2, none⟩ = some (.int .i64 3) := by rw [HB_k_26.out.cell]; rfl
        have l_k := HB_k_26.out.lt
        rw [← Hq.out, eq_]
        clear eq_
        go_wp2_with fail
        go_ret
        exact ⟨rfl, HL_26.out⟩
      · skip
        subst h5
        subst h6
        clear E5
        have bb := (Below.refl w23.heap.size w23).alloc (Nat.le_refl _) (.cells #[.string kw, .int .i64 kn, .int .i64 0] 67)
        have hNB := Bk.new w23 67 #[.string kw, .int .i64 kn, .int .i64 0]
        go_wp2_with fail
        obtain ⟨b_k, hbn⟩ : ∃ z, z = w23.heap.size := ⟨_, rfl⟩
        obtain ⟨w24, hwn⟩ : ∃ z, z = w23.alloc (.cells #[.string kw, .int .i64 kn, .int .i64 0] 67) := ⟨_, rfl⟩
        rw [← hwn] at bb
        rw [← hbn, ← hwn] at hNB
        rw [← hwn]
        try rw [← hbn]
        clear c_o_0 c_o_1 l_o
        have HB_o_24 := Lib.hid (HB_o_23.out.below bb HB_o_23.out.lt)
        clear HB_o_23
        have HR_o_24 := Lib.hid (HR_o_23.out.keep bb)
        clear HR_o_23
        have HL_24 := Lib.hid (HL_23.out.trans (bb.mono HL_23.out.size))
        clear HL_23
        have HB_k_24 := Lib.hid hNB
        clear hNB bb
        have Hbn_k := Lib.hid hbn
        clear hbn hwn
        have c_o_0 : w24.cell? ⟨b_o, 0, none⟩ = some (.int .i64 (L : Int)) := by rw [HB_o_24.out.cell]; rfl
        have c_o_1 : w24.cell? ⟨b_o, 1, none⟩ = some (.slice B2 k2 d2) := by rw [HB_o_24.out.cell]; rfl
        have l_o := HB_o_24.out.lt
        have c_k_0 : w24.cell? ⟨b_k, 0, none⟩ = some (.string kw) := by rw [HB_k_24.out.cell]; rfl
        have c_k_1 : w24.cell? ⟨b_k, 1, none⟩ = some (.int .i64 kn) := by rw [HB_k_24.out.cell]; rfl
        have c_k_2 : w24.cell? ⟨b_k, 2, none⟩ = some (.int .i64 0) := by rw [HB_k_24.out.cell]; rfl
        have l_k := HB_k_24.out.lt
        (try go_wp2_with fail)
        with_reducible refine (implEndsAlways_any (L : Int) B2 k2 d2 rs2 2 _ HR_o_24.out Hk2.out hkb2 Hzs2.out).mono ?_
        rintro e w25 ⟨rfl, bb⟩
        clear c_o_0 c_o_1 l_o c_k_0 c_k_1 c_k_2 l_k
        have HB_o_25 := Lib.hid (HB_o_24.out.below bb HB_o_24.out.lt)
        clear HB_o_24
        have HB_k_25 := Lib.hid (HB_k_24.out.below bb HB_k_24.out.lt)
        clear HB_k_24
        have HR_o_25 := Lib.hid (HR_o_24.out.keep bb)
        clear HR_o_24
        have HL_25 := Lib.hid (HL_24.out.trans (bb.mono HL_24.out.size))
        clear HL_24
        clear bb
        have c_o_0 : w25.cell? ⟨b_o, 0, none⟩ = some (.int .i64 (L : Int)) := by rw [HB_o_25.out.cell]; rfl
        have c_o_1 : w25.cell? ⟨b_o, 1, none⟩ = some (.slice B2 k2 d2) := by rw [HB_o_25.out.cell]; rfl
        have l_o := HB_o_25.out.lt
        have c_k_0 : w25.cell? ⟨b_k, 0, none⟩ = some (.string kw) := by rw [HB_k_25.out.cell]; rfl
        have c_k_1 : w25.cell? ⟨b_k, 1, none⟩ = some (.int .i64 kn) := by rw [HB_k_25.out.cell]; rfl
        have c_k_2 : w25.cell? ⟨b_k, 2, none⟩ = some (.int .i64 0) := by rw [HB_k_25.out.cell]; rfl
        have l_k := HB_k_25.out.lt
        rw [E3.out]
        obtain ⟨⟨gw, gn, gc⟩, hq⟩ : ∃ z, z = runAll true (L : Int) rs2 v 0 := ⟨_, rfl⟩
        have n6 := E4.out
        rw [← hq] at n6
        dsimp only at n6
        subst n6
        have eq_ : runV (gw, gn, gc) = .agg #[.string gw, .int .i64 gn, .int .i64 gc] := rfl
        have hfld : ∀ W, (Instr.field 67 (.agg #[.string gw, .int .i64 gn, .int .i64 gc]) 0).run Try.prog W = .ok (.string gw) W := fun W => rfl
        have Hq := Lib.hid hq
        clear hq
        (try go_wp2_with fail)
        with_reducible refine (implRunFar_any (L : Int) B2 k2 d2 rs2 gw 0 _ HR_o_25.out Hk2.out hkb2 Hzs2.out hvb).mono ?_
        rintro e w26 ⟨rfl, bb⟩
        clear c_o_0 c_o_1 l_o c_k_0 c_k_1 c_k_2 l_k
        have HB_o_26 := Lib.hid (HB_o_25.out.below bb HB_o_25.out.lt)
        clear HB_o_25
        have HB_k_26 := Lib.hid (HB_k_25.out.below bb HB_k_25.out.lt)
        clear HB_k_25
        have HR_o_26 := Lib.hid (HR_o_25.out.keep bb)
        clear HR_o_25
        have HL_26 := Lib.hid (HL_25.out.trans (bb.mono HL_25.out.size))
        clear HL_25
        clear bb
        have c_o_0 : w26.cell? ⟨b_o, 0, none⟩ = some (.int .i64 (L : Int)) := by rw [HB_o_26.out.cell]; rfl
        have c_o_1 : w26.cell? ⟨b_o, 1, none⟩ = some (.slice B2 k2 d2) := by rw [HB_o_26.out.cell]; rfl
        have l_o := HB_o_26.out.lt
        have c_k_0 : w26.cell? ⟨b_k, 0, none⟩ = some (.string kw) := by rw [HB_k_26.out.cell]; rfl
        have c_k_1 : w26.cell? ⟨b_k, 1, none⟩ = some (.int .i64 kn) := by rw [HB_k_26.out.cell]; rfl
        have c_k_2 : w26.cell? ⟨b_k, 2, none⟩ = some (.int .i64 0) := by rw [HB_k_26.out.cell]; rfl
        have l_k := HB_k_26.out.lt
        rw [← Hq.out, eq_]
        clear eq_
        go_wp2_with fail
        go_ret
        exact ⟨rfl, HL_26.out⟩
  · skip
    have hwr1 : IntKind.i64.wrap ((N : Int) + 1) = (N : Int) + 1 := IntWalk.i64_in _ ⟨by omega, by omega⟩
    have hwr2 : IntKind.i64.wrap (N : Int) = (N : Int) := IntWalk.i64_in _ ⟨by omega, by omega⟩
    have hwr3 : (N : Int) < (N : Int) + 1 := by omega
    obtain ⟨rfl, rfl, rfl⟩ : yw = xw ∧ yn = (N : Int) ∧ yc = xc := by have := Q6.out h3; injection this with a1 a2; injection a2 with a2 a3; exact ⟨a1, a2, a3⟩
    have h3' : (yc == 3) = false := by simp; exact h3
    have h4' : (yc == 4) = false := by simp; omega
    have h3n : (yc != 3) = true := by simp; exact h3
    have h3d : decide (yc = 3) = false := by simp; exact h3
    have h4d : decide (yc = 4) = false := by simp; omega
    clear Q6 Q7
    go_wp2_with fail
    refine wp_region_held_drew (S := (fun W => W.cell? ⟨b_x, 0, none⟩ = some (.string yw) ∧ W.cell? ⟨b_x, 1, none⟩ = some (.int .i64 (N : Int)) ∧ W.cell? ⟨b_x, 2, none⟩ = some (.int .i64 yc) ∧ W.cell? ⟨bl, off + N, none⟩ = some (.string yw) ∧ W.cell? ⟨b_y, 0, none⟩ = some (.string yw) ∧ W.cell? ⟨b_y, 1, none⟩ = some (.int .i64 (N : Int)) ∧ W.cell? ⟨b_y, 2, none⟩ = some (.int .i64 yc))) (by kernel_rfl) ((by exact ⟨c_x_0, c_x_1, c_x_2, pl, c_y_0, c_y_1, c_y_2⟩)) (fun hHeld => ?_)
    refine wpAnyH_take (i := 0) (oi := ?oi2019) (v := ?val2019) ?hi2019 ?hs2019 ?hf2019 ?hr2019 ?hQ2019 ?hy2019 ?hS2019 ?hrest2019
    case hi2019 => (simp only [List.getElem?_toArray, List.getElem?_cons_succ, List.getElem?_cons_zero] <;> exact rfl)
    case hs2019 => kernel_rfl
    case hf2019 => kernel_rfl
    case hr2019 => kernel_rfl
    case hQ2019 => exact fun _ _ _ h => h
    case hS2019 => assumption
    case hy2019 => (refine Or.inl ⟨by rfl, ?_⟩; intro w hSw; (try dsimp only at hSw); obtain ⟨z0, z1, z2, z3, z4, z5, z6⟩ := hSw; go_simp; try with_reducible rfl)
    simp only [Act.put, List.setIfInBounds_toArray, List.set_cons_zero, List.set_cons_succ]
    refine wpAnyH_take (i := 1) (oi := ?oi2028) (v := ?val2028) ?hi2028 ?hs2028 ?hf2028 ?hr2028 ?hQ2028 ?hy2028 ?hS2028 ?hrest2028
    case hi2028 => (simp only [List.getElem?_toArray, List.getElem?_cons_succ, List.getElem?_cons_zero] <;> exact rfl)
    case hs2028 => kernel_rfl
    case hf2028 => kernel_rfl
    case hr2028 => kernel_rfl
    case hQ2028 => exact fun _ _ _ h => h
    case hS2028 => assumption
    case hy2028 => (refine Or.inl ⟨by rfl, ?_⟩; intro w hSw; (try dsimp only at hSw); obtain ⟨z0, z1, z2, z3, z4, z5, z6⟩ := hSw; go_simp; try with_reducible rfl)
    simp only [Act.put, List.setIfInBounds_toArray, List.set_cons_zero, List.set_cons_succ]
    refine wpAnyH_take (i := 2) (oi := ?oi2037) (v := ?val2037) ?hi2037 ?hs2037 ?hf2037 ?hr2037 ?hQ2037 ?hy2037 ?hS2037 ?hrest2037
    case hi2037 => (simp only [List.getElem?_toArray, List.getElem?_cons_succ, List.getElem?_cons_zero] <;> exact rfl)
    case hs2037 => kernel_rfl
    case hf2037 => kernel_rfl
    case hr2037 => kernel_rfl
    case hQ2037 => exact fun _ _ _ h => h
    case hS2037 => assumption
    case hy2037 => (refine Or.inl ⟨by rfl, ?_⟩; intro w hSw; (try dsimp only at hSw); obtain ⟨z0, z1, z2, z3, z4, z5, z6⟩ := hSw; go_simp; try with_reducible rfl)
    simp only [Act.put, List.setIfInBounds_toArray, List.set_cons_zero, List.set_cons_succ]
    refine wpAnyH_take (i := 3) (oi := ?oi2046) (v := ?val2046) ?hi2046 ?hs2046 ?hf2046 ?hr2046 ?hQ2046 ?hy2046 ?hS2046 ?hrest2046
    case hi2046 => (simp only [List.getElem?_toArray, List.getElem?_cons_succ, List.getElem?_cons_zero] <;> exact rfl)
    case hs2046 => kernel_rfl
    case hf2046 => kernel_rfl
    case hr2046 => kernel_rfl
    case hQ2046 => exact fun _ _ _ h => h
    case hS2046 => assumption
    case hy2046 => (refine Or.inl ⟨by rfl, ?_⟩; intro w hSw; (try dsimp only at hSw); obtain ⟨z0, z1, z2, z3, z4, z5, z6⟩ := hSw; go_simp; try with_reducible rfl)
    simp only [Act.put, List.setIfInBounds_toArray, List.set_cons_zero, List.set_cons_succ]
    refine wpAnyH_take (i := 4) (oi := ?oi2055) (v := ?val2055) ?hi2055 ?hs2055 ?hf2055 ?hr2055 ?hQ2055 ?hy2055 ?hS2055 ?hrest2055
    case hi2055 => (simp only [List.getElem?_toArray, List.getElem?_cons_succ, List.getElem?_cons_zero] <;> exact rfl)
    case hs2055 => kernel_rfl
    case hf2055 => kernel_rfl
    case hr2055 => kernel_rfl
    case hQ2055 => exact fun _ _ _ h => h
    case hS2055 => assumption
    case hy2055 => (refine Or.inl ⟨by rfl, ?_⟩; intro w hSw; (try dsimp only at hSw); obtain ⟨z0, z1, z2, z3, z4, z5, z6⟩ := hSw; go_simp; try with_reducible rfl)
    simp only [Act.put, List.setIfInBounds_toArray, List.set_cons_zero, List.set_cons_succ]
    refine wpAnyH_take (i := 5) (oi := ?oi2064) (v := ?val2064) ?hi2064 ?hs2064 ?hf2064 ?hr2064 ?hQ2064 ?hy2064 ?hS2064 ?hrest2064
    case hi2064 => (simp only [List.getElem?_toArray, List.getElem?_cons_succ, List.getElem?_cons_zero] <;> exact rfl)
    case hs2064 => kernel_rfl
    case hf2064 => kernel_rfl
    case hr2064 => kernel_rfl
    case hQ2064 => exact fun _ _ _ h => h
    case hS2064 => assumption
    case hy2064 => (refine Or.inl ⟨by rfl, ?_⟩; intro w hSw; (try dsimp only at hSw); obtain ⟨z0, z1, z2, z3, z4, z5, z6⟩ := hSw; go_simp; try with_reducible rfl)
    simp only [Act.put, List.setIfInBounds_toArray, List.set_cons_zero, List.set_cons_succ]
    refine wpAnyH_take (i := 6) (oi := ?oi2073) (v := ?val2073) ?hi2073 ?hs2073 ?hf2073 ?hr2073 ?hQ2073 ?hy2073 ?hS2073 ?hrest2073
    case hi2073 => (simp only [List.getElem?_toArray, List.getElem?_cons_succ, List.getElem?_cons_zero] <;> exact rfl)
    case hs2073 => kernel_rfl
    case hf2073 => kernel_rfl
    case hr2073 => kernel_rfl
    case hQ2073 => exact fun _ _ _ h => h
    case hS2073 => assumption
    case hy2073 => (refine Or.inl ⟨by rfl, ?_⟩; intro w hSw; (try dsimp only at hSw); obtain ⟨z0, z1, z2, z3, z4, z5, z6⟩ := hSw; go_simp; try with_reducible rfl)
    simp only [Act.put, List.setIfInBounds_toArray, List.set_cons_zero, List.set_cons_succ]
    refine wpAnyH_take (i := 7) (oi := ?oi2082) (v := ?val2082) ?hi2082 ?hs2082 ?hf2082 ?hr2082 ?hQ2082 ?hy2082 ?hS2082 ?hrest2082
    case hi2082 => (simp only [List.getElem?_toArray, List.getElem?_cons_succ, List.getElem?_cons_zero] <;> exact rfl)
    case hs2082 => kernel_rfl
    case hf2082 => kernel_rfl
    case hr2082 => kernel_rfl
    case hQ2082 => exact fun _ _ _ h => h
    case hS2082 => assumption
    case hy2082 => (refine Or.inl ⟨by rfl, ?_⟩; intro w hSw; (try dsimp only at hSw); obtain ⟨z0, z1, z2, z3, z4, z5, z6⟩ := hSw; go_simp; try with_reducible rfl)
    simp only [Act.put, List.setIfInBounds_toArray, List.set_cons_zero, List.set_cons_succ]
    refine wpAnyH_take (i := 8) (oi := ?oi2091) (v := ?val2091) ?hi2091 ?hs2091 ?hf2091 ?hr2091 ?hQ2091 ?hy2091 ?hS2091 ?hrest2091
    case hi2091 => (simp only [List.getElem?_toArray, List.getElem?_cons_succ, List.getElem?_cons_zero] <;> exact rfl)
    case hs2091 => kernel_rfl
    case hf2091 => kernel_rfl
    case hr2091 => kernel_rfl
    case hQ2091 => exact fun _ _ _ h => h
    case hS2091 => assumption
    case hy2091 => (refine Or.inl ⟨by rfl, ?_⟩; intro w hSw; (try dsimp only at hSw); obtain ⟨z0, z1, z2, z3, z4, z5, z6⟩ := hSw; go_simp; try with_reducible rfl)
    simp only [Act.put, List.setIfInBounds_toArray, List.set_cons_zero, List.set_cons_succ]
    refine wpAnyH_take (i := 9) (oi := ?oi2100) (v := ?val2100) ?hi2100 ?hs2100 ?hf2100 ?hr2100 ?hQ2100 ?hy2100 ?hS2100 ?hrest2100
    case hi2100 => (simp only [List.getElem?_toArray, List.getElem?_cons_succ, List.getElem?_cons_zero] <;> exact rfl)
    case hs2100 => kernel_rfl
    case hf2100 => kernel_rfl
    case hr2100 => kernel_rfl
    case hQ2100 => exact fun _ _ _ h => h
    case hS2100 => assumption
    case hy2100 => (refine Or.inl ⟨by rfl, ?_⟩; intro w hSw; (try dsimp only at hSw); obtain ⟨z0, z1, z2, z3, z4, z5, z6⟩ := hSw; go_simp; try with_reducible rfl)
    simp only [Act.put, List.setIfInBounds_toArray, List.set_cons_zero, List.set_cons_succ]
    refine wpAnyH_take (i := 10) (oi := ?oi2109) (v := ?val2109) ?hi2109 ?hs2109 ?hf2109 ?hr2109 ?hQ2109 ?hy2109 ?hS2109 ?hrest2109
    case hi2109 => (simp only [List.getElem?_toArray, List.getElem?_cons_succ, List.getElem?_cons_zero] <;> exact rfl)
    case hs2109 => kernel_rfl
    case hf2109 => kernel_rfl
    case hr2109 => kernel_rfl
    case hQ2109 => exact fun _ _ _ h => h
    case hS2109 => assumption
    case hy2109 => (refine Or.inl ⟨by rfl, ?_⟩; intro w hSw; (try dsimp only at hSw); obtain ⟨z0, z1, z2, z3, z4, z5, z6⟩ := hSw; go_simp; try with_reducible rfl)
    simp only [Act.put, List.setIfInBounds_toArray, List.set_cons_zero, List.set_cons_succ]
    refine wpAnyH_take (i := 11) (oi := ?oi2118) (v := ?val2118) ?hi2118 ?hs2118 ?hf2118 ?hr2118 ?hQ2118 ?hy2118 ?hS2118 ?hrest2118
    case hi2118 => (simp only [List.getElem?_toArray, List.getElem?_cons_succ, List.getElem?_cons_zero] <;> exact rfl)
    case hs2118 => kernel_rfl
    case hf2118 => kernel_rfl
    case hr2118 => kernel_rfl
    case hQ2118 => exact fun _ _ _ h => h
    case hS2118 => assumption
    case hy2118 => (refine Or.inl ⟨by rfl, ?_⟩; intro w hSw; (try dsimp only at hSw); obtain ⟨z0, z1, z2, z3, z4, z5, z6⟩ := hSw; go_simp; try with_reducible rfl)
    simp only [Act.put, List.setIfInBounds_toArray, List.set_cons_zero, List.set_cons_succ]
    refine wpAnyH_take (i := 12) (oi := ?oi2127) (v := ?val2127) ?hi2127 ?hs2127 ?hf2127 ?hr2127 ?hQ2127 ?hy2127 ?hS2127 ?hrest2127
    case hi2127 => (simp only [List.getElem?_toArray, List.getElem?_cons_succ, List.getElem?_cons_zero] <;> exact rfl)
    case hs2127 => kernel_rfl
    case hf2127 => kernel_rfl
    case hr2127 => kernel_rfl
    case hQ2127 => exact fun _ _ _ h => h
    case hS2127 => assumption
    case hy2127 => (refine Or.inl ⟨by rfl, ?_⟩; intro w hSw; (try dsimp only at hSw); obtain ⟨z0, z1, z2, z3, z4, z5, z6⟩ := hSw; go_simp; try with_reducible rfl)
    simp only [Act.put, List.setIfInBounds_toArray, List.set_cons_zero, List.set_cons_succ]
    refine wpAnyH_take (i := 13) (oi := ?oi2136) (v := ?val2136) ?hi2136 ?hs2136 ?hf2136 ?hr2136 ?hQ2136 ?hy2136 ?hS2136 ?hrest2136
    case hi2136 => (simp only [List.getElem?_toArray, List.getElem?_cons_succ, List.getElem?_cons_zero] <;> exact rfl)
    case hs2136 => kernel_rfl
    case hf2136 => kernel_rfl
    case hr2136 => kernel_rfl
    case hQ2136 => exact fun _ _ _ h => h
    case hS2136 => assumption
    case hy2136 => (refine Or.inl ⟨by rfl, ?_⟩; intro w hSw; (try dsimp only at hSw); obtain ⟨z0, z1, z2, z3, z4, z5, z6⟩ := hSw; go_simp; try with_reducible rfl)
    simp only [Act.put, List.setIfInBounds_toArray, List.set_cons_zero, List.set_cons_succ]
    refine wpAnyH_take (i := 14) (oi := ?oi2145) (v := ?val2145) ?hi2145 ?hs2145 ?hf2145 ?hr2145 ?hQ2145 ?hy2145 ?hS2145 ?hrest2145
    case hi2145 => (simp only [List.getElem?_toArray, List.getElem?_cons_succ, List.getElem?_cons_zero] <;> exact rfl)
    case hs2145 => kernel_rfl
    case hf2145 => kernel_rfl
    case hr2145 => kernel_rfl
    case hQ2145 => exact fun _ _ _ h => h
    case hS2145 => assumption
    case hy2145 => (refine Or.inl ⟨by rfl, ?_⟩; intro w hSw; (try dsimp only at hSw); obtain ⟨z0, z1, z2, z3, z4, z5, z6⟩ := hSw; go_simp; try with_reducible rfl)
    simp only [Act.put, List.setIfInBounds_toArray, List.set_cons_zero, List.set_cons_succ]
    refine wpAnyH_take (i := 15) (oi := ?oi2154) (v := ?val2154) ?hi2154 ?hs2154 ?hf2154 ?hr2154 ?hQ2154 ?hy2154 ?hS2154 ?hrest2154
    case hi2154 => (simp only [List.getElem?_toArray, List.getElem?_cons_succ, List.getElem?_cons_zero] <;> exact rfl)
    case hs2154 => kernel_rfl
    case hf2154 => kernel_rfl
    case hr2154 => kernel_rfl
    case hQ2154 => exact fun _ _ _ h => h
    case hS2154 => assumption
    case hy2154 => (refine Or.inl ⟨by rfl, ?_⟩; intro w hSw; (try dsimp only at hSw); obtain ⟨z0, z1, z2, z3, z4, z5, z6⟩ := hSw; go_simp; try with_reducible rfl)
    simp only [Act.put, List.setIfInBounds_toArray, List.set_cons_zero, List.set_cons_succ]
    refine wpAnyH_take (i := 16) (oi := ?oi2163) (v := ?val2163) ?hi2163 ?hs2163 ?hf2163 ?hr2163 ?hQ2163 ?hy2163 ?hS2163 ?hrest2163
    case hi2163 => (simp only [List.getElem?_toArray, List.getElem?_cons_succ, List.getElem?_cons_zero] <;> exact rfl)
    case hs2163 => kernel_rfl
    case hf2163 => kernel_rfl
    case hr2163 => kernel_rfl
    case hQ2163 => exact fun _ _ _ h => h
    case hS2163 => assumption
    case hy2163 => (refine Or.inl ⟨by rfl, ?_⟩; intro w hSw; (try dsimp only at hSw); obtain ⟨z0, z1, z2, z3, z4, z5, z6⟩ := hSw; go_simp; try with_reducible rfl)
    simp only [Act.put, List.setIfInBounds_toArray, List.set_cons_zero, List.set_cons_succ]
    refine wpAnyH_take (i := 17) (oi := ?oi2172) (v := ?val2172) ?hi2172 ?hs2172 ?hf2172 ?hr2172 ?hQ2172 ?hy2172 ?hS2172 ?hrest2172
    case hi2172 => (simp only [List.getElem?_toArray, List.getElem?_cons_succ, List.getElem?_cons_zero] <;> exact rfl)
    case hs2172 => kernel_rfl
    case hf2172 => kernel_rfl
    case hr2172 => kernel_rfl
    case hQ2172 => exact fun _ _ _ h => h
    case hS2172 => assumption
    case hy2172 => (refine Or.inl ⟨by rfl, ?_⟩; intro w hSw; (try dsimp only at hSw); obtain ⟨z0, z1, z2, z3, z4, z5, z6⟩ := hSw; go_simp; try with_reducible rfl)
    simp only [Act.put, List.setIfInBounds_toArray, List.set_cons_zero, List.set_cons_succ]
    refine wpAnyH_take (i := 18) (oi := ?oi2181) (v := ?val2181) ?hi2181 ?hs2181 ?hf2181 ?hr2181 ?hQ2181 ?hy2181 ?hS2181 ?hrest2181
    case hi2181 => (simp only [List.getElem?_toArray, List.getElem?_cons_succ, List.getElem?_cons_zero] <;> exact rfl)
    case hs2181 => kernel_rfl
    case hf2181 => kernel_rfl
    case hr2181 => kernel_rfl
    case hQ2181 => exact fun _ _ _ h => h
    case hS2181 => assumption
    case hy2181 => (refine Or.inl ⟨by rfl, ?_⟩; intro w hSw; (try dsimp only at hSw); obtain ⟨z0, z1, z2, z3, z4, z5, z6⟩ := hSw; go_simp; try with_reducible rfl)
    simp only [Act.put, List.setIfInBounds_toArray, List.set_cons_zero, List.set_cons_succ]
    refine wpAnyH_take (i := 19) (oi := ?oi2190) (v := ?val2190) ?hi2190 ?hs2190 ?hf2190 ?hr2190 ?hQ2190 ?hy2190 ?hS2190 ?hrest2190
    case hi2190 => (simp only [List.getElem?_toArray, List.getElem?_cons_succ, List.getElem?_cons_zero] <;> exact rfl)
    case hs2190 => kernel_rfl
    case hf2190 => kernel_rfl
    case hr2190 => kernel_rfl
    case hQ2190 => exact fun _ _ _ h => h
    case hS2190 => assumption
    case hy2190 => (refine Or.inl ⟨by rfl, ?_⟩; intro w hSw; (try dsimp only at hSw); obtain ⟨z0, z1, z2, z3, z4, z5, z6⟩ := hSw; go_simp; try with_reducible rfl)
    simp only [Act.put, List.setIfInBounds_toArray, List.set_cons_zero, List.set_cons_succ]
    refine wpAnyH_take (i := 20) (oi := ?oi2199) (v := ?val2199) ?hi2199 ?hs2199 ?hf2199 ?hr2199 ?hQ2199 ?hy2199 ?hS2199 ?hrest2199
    case hi2199 => (simp only [List.getElem?_toArray, List.getElem?_cons_succ, List.getElem?_cons_zero] <;> exact rfl)
    case hs2199 => kernel_rfl
    case hf2199 => kernel_rfl
    case hr2199 => kernel_rfl
    case hQ2199 => exact fun _ _ _ h => h
    case hS2199 => assumption
    case hy2199 => (refine Or.inl ⟨by rfl, ?_⟩; intro w hSw; (try dsimp only at hSw); obtain ⟨z0, z1, z2, z3, z4, z5, z6⟩ := hSw; go_simp; try with_reducible rfl)
    simp only [Act.put, List.setIfInBounds_toArray, List.set_cons_zero, List.set_cons_succ]
    refine wpAnyH_take (i := 21) (oi := ?oi2208) (v := ?val2208) ?hi2208 ?hs2208 ?hf2208 ?hr2208 ?hQ2208 ?hy2208 ?hS2208 ?hrest2208
    case hi2208 => (simp only [List.getElem?_toArray, List.getElem?_cons_succ, List.getElem?_cons_zero] <;> exact rfl)
    case hs2208 => kernel_rfl
    case hf2208 => kernel_rfl
    case hr2208 => kernel_rfl
    case hQ2208 => exact fun _ _ _ h => h
    case hS2208 => assumption
    case hy2208 => (refine Or.inl ⟨by rfl, ?_⟩; intro w hSw; (try dsimp only at hSw); obtain ⟨z0, z1, z2, z3, z4, z5, z6⟩ := hSw; go_simp; try with_reducible rfl)
    simp only [Act.put, List.setIfInBounds_toArray, List.set_cons_zero, List.set_cons_succ]
    refine wpAnyH_take (i := 22) (oi := ?oi2217) (v := ?val2217) ?hi2217 ?hs2217 ?hf2217 ?hr2217 ?hQ2217 ?hy2217 ?hS2217 ?hrest2217
    case hi2217 => (simp only [List.getElem?_toArray, List.getElem?_cons_succ, List.getElem?_cons_zero] <;> exact rfl)
    case hs2217 => kernel_rfl
    case hf2217 => kernel_rfl
    case hr2217 => kernel_rfl
    case hQ2217 => exact fun _ _ _ h => h
    case hS2217 => assumption
    case hy2217 => (refine Or.inl ⟨by rfl, ?_⟩; intro w hSw; (try dsimp only at hSw); obtain ⟨z0, z1, z2, z3, z4, z5, z6⟩ := hSw; go_simp; try with_reducible rfl)
    simp only [Act.put, List.setIfInBounds_toArray, List.set_cons_zero, List.set_cons_succ]
    refine wpAnyH_take (i := 23) (oi := ?oi2226) (v := ?val2226) ?hi2226 ?hs2226 ?hf2226 ?hr2226 ?hQ2226 ?hy2226 ?hS2226 ?hrest2226
    case hi2226 => (simp only [List.getElem?_toArray, List.getElem?_cons_succ, List.getElem?_cons_zero] <;> exact rfl)
    case hs2226 => kernel_rfl
    case hf2226 => kernel_rfl
    case hr2226 => kernel_rfl
    case hQ2226 => exact fun _ _ _ h => h
    case hS2226 => assumption
    case hy2226 => (refine Or.inl ⟨by rfl, ?_⟩; intro w hSw; (try dsimp only at hSw); obtain ⟨z0, z1, z2, z3, z4, z5, z6⟩ := hSw; go_simp; try with_reducible rfl)
    simp only [Act.put, List.setIfInBounds_toArray, List.set_cons_zero, List.set_cons_succ]
    refine wpAnyH_take (i := 24) (oi := ?oi2235) (v := ?val2235) ?hi2235 ?hs2235 ?hf2235 ?hr2235 ?hQ2235 ?hy2235 ?hS2235 ?hrest2235
    case hi2235 => (simp only [List.getElem?_toArray, List.getElem?_cons_succ, List.getElem?_cons_zero] <;> exact rfl)
    case hs2235 => kernel_rfl
    case hf2235 => kernel_rfl
    case hr2235 => kernel_rfl
    case hQ2235 => exact fun _ _ _ h => h
    case hS2235 => assumption
    case hy2235 => (refine Or.inl ⟨by rfl, ?_⟩; intro w hSw; (try dsimp only at hSw); obtain ⟨z0, z1, z2, z3, z4, z5, z6⟩ := hSw; go_simp; try with_reducible rfl)
    simp only [Act.put, List.setIfInBounds_toArray, List.set_cons_zero, List.set_cons_succ]
    refine wpAnyH_take (i := 25) (oi := ?oi2244) (v := ?val2244) ?hi2244 ?hs2244 ?hf2244 ?hr2244 ?hQ2244 ?hy2244 ?hS2244 ?hrest2244
    case hi2244 => (simp only [List.getElem?_toArray, List.getElem?_cons_succ, List.getElem?_cons_zero] <;> exact rfl)
    case hs2244 => kernel_rfl
    case hf2244 => kernel_rfl
    case hr2244 => kernel_rfl
    case hQ2244 => exact fun _ _ _ h => h
    case hS2244 => assumption
    case hy2244 => (refine Or.inl ⟨by rfl, ?_⟩; intro w hSw; (try dsimp only at hSw); obtain ⟨z0, z1, z2, z3, z4, z5, z6⟩ := hSw; go_simp; try with_reducible rfl)
    simp only [Act.put, List.setIfInBounds_toArray, List.set_cons_zero, List.set_cons_succ]
    refine wpAnyH_take (i := 26) (oi := ?oi2253) (v := ?val2253) ?hi2253 ?hs2253 ?hf2253 ?hr2253 ?hQ2253 ?hy2253 ?hS2253 ?hrest2253
    case hi2253 => (simp only [List.getElem?_toArray, List.getElem?_cons_succ, List.getElem?_cons_zero] <;> exact rfl)
    case hs2253 => kernel_rfl
    case hf2253 => kernel_rfl
    case hr2253 => kernel_rfl
    case hQ2253 => exact fun _ _ _ h => h
    case hS2253 => assumption
    case hy2253 => (refine Or.inl ⟨by rfl, ?_⟩; intro w hSw; (try dsimp only at hSw); obtain ⟨z0, z1, z2, z3, z4, z5, z6⟩ := hSw; go_simp; try with_reducible rfl)
    simp only [Act.put, List.setIfInBounds_toArray, List.set_cons_zero, List.set_cons_succ]
    refine wpAnyH_take (i := 27) (oi := ?oi2262) (v := ?val2262) ?hi2262 ?hs2262 ?hf2262 ?hr2262 ?hQ2262 ?hy2262 ?hS2262 ?hrest2262
    case hi2262 => (simp only [List.getElem?_toArray, List.getElem?_cons_succ, List.getElem?_cons_zero] <;> exact rfl)
    case hs2262 => kernel_rfl
    case hf2262 => kernel_rfl
    case hr2262 => kernel_rfl
    case hQ2262 => exact fun _ _ _ h => h
    case hS2262 => assumption
    case hy2262 => (refine Or.inl ⟨by rfl, ?_⟩; intro w hSw; (try dsimp only at hSw); obtain ⟨z0, z1, z2, z3, z4, z5, z6⟩ := hSw; go_simp; try with_reducible rfl)
    simp only [Act.put, List.setIfInBounds_toArray, List.set_cons_zero, List.set_cons_succ]
    refine wpAnyH_take (i := 28) (oi := ?oi2271) (v := ?val2271) ?hi2271 ?hs2271 ?hf2271 ?hr2271 ?hQ2271 ?hy2271 ?hS2271 ?hrest2271
    case hi2271 => (simp only [List.getElem?_toArray, List.getElem?_cons_succ, List.getElem?_cons_zero] <;> exact rfl)
    case hs2271 => kernel_rfl
    case hf2271 => kernel_rfl
    case hr2271 => kernel_rfl
    case hQ2271 => exact fun _ _ _ h => h
    case hS2271 => assumption
    case hy2271 => (refine Or.inl ⟨by rfl, ?_⟩; intro w hSw; (try dsimp only at hSw); obtain ⟨z0, z1, z2, z3, z4, z5, z6⟩ := hSw; go_simp; try with_reducible rfl)
    simp only [Act.put, List.setIfInBounds_toArray, List.set_cons_zero, List.set_cons_succ]
    refine wpAnyH_take (i := 29) (oi := ?oi2280) (v := ?val2280) ?hi2280 ?hs2280 ?hf2280 ?hr2280 ?hQ2280 ?hy2280 ?hS2280 ?hrest2280
    case hi2280 => (simp only [List.getElem?_toArray, List.getElem?_cons_succ, List.getElem?_cons_zero] <;> exact rfl)
    case hs2280 => kernel_rfl
    case hf2280 => kernel_rfl
    case hr2280 => kernel_rfl
    case hQ2280 => exact fun _ _ _ h => h
    case hS2280 => assumption
    case hy2280 => (refine Or.inl ⟨by rfl, ?_⟩; intro w hSw; (try dsimp only at hSw); obtain ⟨z0, z1, z2, z3, z4, z5, z6⟩ := hSw; go_simp; try with_reducible rfl)
    simp only [Act.put, List.setIfInBounds_toArray, List.set_cons_zero, List.set_cons_succ]
    refine wpAnyH_take (i := 30) (oi := ?oi2289) (v := ?val2289) ?hi2289 ?hs2289 ?hf2289 ?hr2289 ?hQ2289 ?hy2289 ?hS2289 ?hrest2289
    case hi2289 => (simp only [List.getElem?_toArray, List.getElem?_cons_succ, List.getElem?_cons_zero] <;> exact rfl)
    case hs2289 => kernel_rfl
    case hf2289 => kernel_rfl
    case hr2289 => kernel_rfl
    case hQ2289 => exact fun _ _ _ h => h
    case hS2289 => assumption
    case hy2289 => (refine Or.inl ⟨by rfl, ?_⟩; intro w hSw; (try dsimp only at hSw); obtain ⟨z0, z1, z2, z3, z4, z5, z6⟩ := hSw; go_simp; try with_reducible rfl)
    simp only [Act.put, List.setIfInBounds_toArray, List.set_cons_zero, List.set_cons_succ]
    refine wpAnyH_take (i := 31) (oi := ?oi2298) (v := ?val2298) ?hi2298 ?hs2298 ?hf2298 ?hr2298 ?hQ2298 ?hy2298 ?hS2298 ?hrest2298
    case hi2298 => (simp only [List.getElem?_toArray, List.getElem?_cons_succ, List.getElem?_cons_zero] <;> exact rfl)
    case hs2298 => kernel_rfl
    case hf2298 => kernel_rfl
    case hr2298 => kernel_rfl
    case hQ2298 => exact fun _ _ _ h => h
    case hS2298 => assumption
    case hy2298 => (refine Or.inl ⟨by rfl, ?_⟩; intro w hSw; (try dsimp only at hSw); obtain ⟨z0, z1, z2, z3, z4, z5, z6⟩ := hSw; go_simp; try with_reducible rfl)
    simp only [Act.put, List.setIfInBounds_toArray, List.set_cons_zero, List.set_cons_succ]
    refine wpAnyH_done (by kernel_rfl) ?_ _
    clear hHeld hwr1 hwr2 hwr3
    obtain ⟨w11, hwn⟩ : ∃ z, z = w10.drew := ⟨_, rfl⟩
    have bb := (Below.refl w10.heap.size w10).drew
    rw [← hwn] at bb
    rw [← hwn]
    clear c_s_0 c_s_1 l_s c_x_0 c_x_1 c_x_2 l_x c_y_0 c_y_1 c_y_2 l_y
    have HB_s_11 := Lib.hid (HB_s_10.out.below bb HB_s_10.out.lt)
    clear HB_s_10
    have HB_x_11 := Lib.hid (HB_x_10.out.below bb HB_x_10.out.lt)
    clear HB_x_10
    have HB_y_11 := Lib.hid (HB_y_10.out.below bb HB_y_10.out.lt)
    clear HB_y_10
    have HR_s_11 := Lib.hid (HR_s_10.out.keep bb)
    clear HR_s_10
    have HL_11 := Lib.hid (HL_10.out.trans (bb.mono HL_10.out.size))
    clear HL_10
    clear bb hwn
    have c_s_0 : w11.cell? ⟨b_s, 0, none⟩ = some (.int .i64 2) := by rw [HB_s_11.out.cell]; rfl
    have c_s_1 : w11.cell? ⟨b_s, 1, none⟩ = some (.slice B k d) := by rw [HB_s_11.out.cell]; rfl
    have l_s := HB_s_11.out.lt
    have c_x_0 : w11.cell? ⟨b_x, 0, none⟩ = some (.string yw) := by rw [HB_x_11.out.cell]; rfl
    have c_x_1 : w11.cell? ⟨b_x, 1, none⟩ = some (.int .i64 (N : Int)) := by rw [HB_x_11.out.cell]; rfl
    have c_x_2 : w11.cell? ⟨b_x, 2, none⟩ = some (.int .i64 yc) := by rw [HB_x_11.out.cell]; rfl
    have l_x := HB_x_11.out.lt
    have c_y_0 : w11.cell? ⟨b_y, 0, none⟩ = some (.string yw) := by rw [HB_y_11.out.cell]; rfl
    have c_y_1 : w11.cell? ⟨b_y, 1, none⟩ = some (.int .i64 (N : Int)) := by rw [HB_y_11.out.cell]; rfl
    have c_y_2 : w11.cell? ⟨b_y, 2, none⟩ = some (.int .i64 yc) := by rw [HB_y_11.out.cell]; rfl
    have l_y := HB_y_11.out.lt
    (try go_wp2_with fail)
    with_reducible refine (implRunLoop_any 2 B k d rs s _ HR_s_11.out Hk.out hkb Hzs.out hsb).mono ?_
    rintro e w12 ⟨rfl, bb⟩
    clear c_s_0 c_s_1 l_s c_x_0 c_x_1 c_x_2 l_x c_y_0 c_y_1 c_y_2 l_y
    have HB_s_12 := Lib.hid (HB_s_11.out.below bb HB_s_11.out.lt)
    clear HB_s_11
    have HB_x_12 := Lib.hid (HB_x_11.out.below bb HB_x_11.out.lt)
    clear HB_x_11
    have HB_y_12 := Lib.hid (HB_y_11.out.below bb HB_y_11.out.lt)
    clear HB_y_11
    have HR_s_12 := Lib.hid (HR_s_11.out.keep bb)
    clear HR_s_11
    have HL_12 := Lib.hid (HL_11.out.trans (bb.mono HL_11.out.size))
    clear HL_11
    clear bb
    have c_s_0 : w12.cell? ⟨b_s, 0, none⟩ = some (.int .i64 2) := by rw [HB_s_12.out.cell]; rfl
    have c_s_1 : w12.cell? ⟨b_s, 1, none⟩ = some (.slice B k d) := by rw [HB_s_12.out.cell]; rfl
    have l_s := HB_s_12.out.lt
    have c_x_0 : w12.cell? ⟨b_x, 0, none⟩ = some (.string yw) := by rw [HB_x_12.out.cell]; rfl
    have c_x_1 : w12.cell? ⟨b_x, 1, none⟩ = some (.int .i64 (N : Int)) := by rw [HB_x_12.out.cell]; rfl
    have c_x_2 : w12.cell? ⟨b_x, 2, none⟩ = some (.int .i64 yc) := by rw [HB_x_12.out.cell]; rfl
    have l_x := HB_x_12.out.lt
    have c_y_0 : w12.cell? ⟨b_y, 0, none⟩ = some (.string yw) := by rw [HB_y_12.out.cell]; rfl
    have c_y_1 : w12.cell? ⟨b_y, 1, none⟩ = some (.int .i64 (N : Int)) := by rw [HB_y_12.out.cell]; rfl
    have c_y_2 : w12.cell? ⟨b_y, 2, none⟩ = some (.int .i64 yc) := by rw [HB_y_12.out.cell]; rfl
    have l_y := HB_y_12.out.lt
    obtain ⟨⟨rw, rn, rc⟩, hr⟩ : ∃ z, z = lpRun 2 rs s := ⟨_, rfl⟩
    rw [← hr]
    have e_r : runV (rw, rn, rc) = .agg #[.string rw, .int .i64 rn, .int .i64 rc] := rfl
    rw [e_r]
    clear e_r
    have hgr : lpGrows 2 rs s = (rc == 2) := by unfold lpGrows; have : (lpAll 2 rs s).2 = (rw, rn, rc) := hr.symm; rw [this]
    obtain ⟨l1, l2⟩ := loop_out Hro.out Hw.out
    rw [← hr] at l1 l2
    dsimp only at l1 l2
    obtain ⟨nn, hnn⟩ : ∃ z, z = lpLen 2 rs s := ⟨_, rfl⟩
    rw [← hnn] at l1 l2
    clear hr
    have L1 := Lib.hid l1
    clear l1
    have L2 := Lib.hid l2
    clear l2
    have Hgr := Lib.hid hgr
    clear hgr
    have Hnn := Lib.hid hnn
    clear hnn
    have bb := (Below.refl w12.heap.size w12).alloc (Nat.le_refl _) (.cells #[.string rw, .int .i64 rn, .int .i64 rc] 67)
    have hNB := Bk.new w12 67 #[.string rw, .int .i64 rn, .int .i64 rc]
    go_wp2_with fail
    obtain ⟨b_r, hbn⟩ : ∃ z, z = w12.heap.size := ⟨_, rfl⟩
    obtain ⟨w13, hwn⟩ : ∃ z, z = w12.alloc (.cells #[.string rw, .int .i64 rn, .int .i64 rc] 67) := ⟨_, rfl⟩
    rw [← hwn] at bb
    rw [← hbn, ← hwn] at hNB
    rw [← hwn]
    try rw [← hbn]
    clear c_s_0 c_s_1 l_s c_x_0 c_x_1 c_x_2 l_x c_y_0 c_y_1 c_y_2 l_y
    have HB_s_13 := Lib.hid (HB_s_12.out.below bb HB_s_12.out.lt)
    clear HB_s_12
    have HB_x_13 := Lib.hid (HB_x_12.out.below bb HB_x_12.out.lt)
    clear HB_x_12
    have HB_y_13 := Lib.hid (HB_y_12.out.below bb HB_y_12.out.lt)
    clear HB_y_12
    have HR_s_13 := Lib.hid (HR_s_12.out.keep bb)
    clear HR_s_12
    have HL_13 := Lib.hid (HL_12.out.trans (bb.mono HL_12.out.size))
    clear HL_12
    have HB_r_13 := Lib.hid hNB
    clear hNB bb
    have Hbn_r := Lib.hid hbn
    clear hbn hwn
    have c_s_0 : w13.cell? ⟨b_s, 0, none⟩ = some (.int .i64 2) := by rw [HB_s_13.out.cell]; rfl
    have c_s_1 : w13.cell? ⟨b_s, 1, none⟩ = some (.slice B k d) := by rw [HB_s_13.out.cell]; rfl
    have l_s := HB_s_13.out.lt
    have c_x_0 : w13.cell? ⟨b_x, 0, none⟩ = some (.string yw) := by rw [HB_x_13.out.cell]; rfl
    have c_x_1 : w13.cell? ⟨b_x, 1, none⟩ = some (.int .i64 (N : Int)) := by rw [HB_x_13.out.cell]; rfl
    have c_x_2 : w13.cell? ⟨b_x, 2, none⟩ = some (.int .i64 yc) := by rw [HB_x_13.out.cell]; rfl
    have l_x := HB_x_13.out.lt
    have c_y_0 : w13.cell? ⟨b_y, 0, none⟩ = some (.string yw) := by rw [HB_y_13.out.cell]; rfl
    have c_y_1 : w13.cell? ⟨b_y, 1, none⟩ = some (.int .i64 (N : Int)) := by rw [HB_y_13.out.cell]; rfl
    have c_y_2 : w13.cell? ⟨b_y, 2, none⟩ = some (.int .i64 yc) := by rw [HB_y_13.out.cell]; rfl
    have l_y := HB_y_13.out.lt
    have c_r_0 : w13.cell? ⟨b_r, 0, none⟩ = some (.string rw) := by rw [HB_r_13.out.cell]; rfl
    have c_r_1 : w13.cell? ⟨b_r, 1, none⟩ = some (.int .i64 rn) := by rw [HB_r_13.out.cell]; rfl
    have c_r_2 : w13.cell? ⟨b_r, 2, none⟩ = some (.int .i64 rc) := by rw [HB_r_13.out.cell]; rfl
    have l_r := HB_r_13.out.lt
    (try go_wp2_with fail)
    with_reducible refine (implLoopLength_any 2 B k d rs s _ HR_s_13.out Hk.out hkb Hzs.out hsb).mono ?_
    rintro e w14 ⟨rfl, bb⟩
    clear c_s_0 c_s_1 l_s c_x_0 c_x_1 c_x_2 l_x c_y_0 c_y_1 c_y_2 l_y c_r_0 c_r_1 c_r_2 l_r
    have HB_s_14 := Lib.hid (HB_s_13.out.below bb HB_s_13.out.lt)
    clear HB_s_13
    have HB_x_14 := Lib.hid (HB_x_13.out.below bb HB_x_13.out.lt)
    clear HB_x_13
    have HB_y_14 := Lib.hid (HB_y_13.out.below bb HB_y_13.out.lt)
    clear HB_y_13
    have HB_r_14 := Lib.hid (HB_r_13.out.below bb HB_r_13.out.lt)
    clear HB_r_13
    have HR_s_14 := Lib.hid (HR_s_13.out.keep bb)
    clear HR_s_13
    have HL_14 := Lib.hid (HL_13.out.trans (bb.mono HL_13.out.size))
    clear HL_13
    clear bb
    have c_s_0 : w14.cell? ⟨b_s, 0, none⟩ = some (.int .i64 2) := by rw [HB_s_14.out.cell]; rfl
    have c_s_1 : w14.cell? ⟨b_s, 1, none⟩ = some (.slice B k d) := by rw [HB_s_14.out.cell]; rfl
    have l_s := HB_s_14.out.lt
    have c_x_0 : w14.cell? ⟨b_x, 0, none⟩ = some (.string yw) := by rw [HB_x_14.out.cell]; rfl
    have c_x_1 : w14.cell? ⟨b_x, 1, none⟩ = some (.int .i64 (N : Int)) := by rw [HB_x_14.out.cell]; rfl
    have c_x_2 : w14.cell? ⟨b_x, 2, none⟩ = some (.int .i64 yc) := by rw [HB_x_14.out.cell]; rfl
    have l_x := HB_x_14.out.lt
    have c_y_0 : w14.cell? ⟨b_y, 0, none⟩ = some (.string yw) := by rw [HB_y_14.out.cell]; rfl
    have c_y_1 : w14.cell? ⟨b_y, 1, none⟩ = some (.int .i64 (N : Int)) := by rw [HB_y_14.out.cell]; rfl
    have c_y_2 : w14.cell? ⟨b_y, 2, none⟩ = some (.int .i64 yc) := by rw [HB_y_14.out.cell]; rfl
    have l_y := HB_y_14.out.lt
    have c_r_0 : w14.cell? ⟨b_r, 0, none⟩ = some (.string rw) := by rw [HB_r_14.out.cell]; rfl
    have c_r_1 : w14.cell? ⟨b_r, 1, none⟩ = some (.int .i64 rn) := by rw [HB_r_14.out.cell]; rfl
    have c_r_2 : w14.cell? ⟨b_r, 2, none⟩ = some (.int .i64 rc) := by rw [HB_r_14.out.cell]; rfl
    have l_r := HB_r_14.out.lt
    rw [← Hnn.out]
    by_cases h1 : rc = 1
    · skip
      obtain ⟨n1, n2, n3, n4⟩ := L1.out h1
      subst h1
      clear L1 L2
      have n5 : ¬ nn < 0 := by omega
      have hrb : rw.size ≤ 1048576 := by have := (wordOk_out n3).2.2.1; omega
      have hz9 : ((1 : Int) == 2) = false := rfl
      have N3 := Lib.hid n3
      clear n3
      have N4 := Lib.hid n4
      clear n4
      go_wp2_with fail
      refine wp_region_held_drew (S := (fun W => W.cell? ⟨b_s, 0, none⟩ = some (.int .i64 2) ∧ W.cell? ⟨b_s, 1, none⟩ = some (.slice B k d) ∧ W.cell? ⟨b_r, 0, none⟩ = some (.string rw) ∧ W.cell? ⟨b_r, 1, none⟩ = some (.int .i64 rn) ∧ W.cell? ⟨b_r, 2, none⟩ = some (.int .i64 1))) (by kernel_rfl) ((by exact ⟨c_s_0, c_s_1, c_r_0, c_r_1, c_r_2⟩)) (fun hHeld => ?_)
      refine wpAnyH_take (i := 0) (oi := ?oi2468) (v := ?val2468) ?hi2468 ?hs2468 ?hf2468 ?hr2468 ?hQ2468 ?hy2468 ?hS2468 ?hrest2468
      case hi2468 => (simp only [List.getElem?_toArray, List.getElem?_cons_succ, List.getElem?_cons_zero] <;> exact rfl)
      case hs2468 => kernel_rfl
      case hf2468 => kernel_rfl
      case hr2468 => kernel_rfl
      case hQ2468 => exact fun _ _ _ h => h
      case hS2468 => assumption
      case hy2468 => (refine Or.inl ⟨by rfl, ?_⟩; intro w hSw; (try dsimp only at hSw); obtain ⟨z0, z1, z2, z3, z4⟩ := hSw; go_simp; try with_reducible rfl)
      simp only [Act.put, List.setIfInBounds_toArray, List.set_cons_zero, List.set_cons_succ]
      refine wpAnyH_take (i := 1) (oi := ?oi2477) (v := ?val2477) ?hi2477 ?hs2477 ?hf2477 ?hr2477 ?hQ2477 ?hy2477 ?hS2477 ?hrest2477
      case hi2477 => (simp only [List.getElem?_toArray, List.getElem?_cons_succ, List.getElem?_cons_zero] <;> exact rfl)
      case hs2477 => kernel_rfl
      case hf2477 => kernel_rfl
      case hr2477 => kernel_rfl
      case hQ2477 => exact fun _ _ _ h => h
      case hS2477 => assumption
      case hy2477 => (refine Or.inl ⟨by rfl, ?_⟩; intro w hSw; (try dsimp only at hSw); obtain ⟨z0, z1, z2, z3, z4⟩ := hSw; go_simp; try with_reducible rfl)
      simp only [Act.put, List.setIfInBounds_toArray, List.set_cons_zero, List.set_cons_succ]
      refine wpAnyH_take (i := 2) (oi := ?oi2486) (v := ?val2486) ?hi2486 ?hs2486 ?hf2486 ?hr2486 ?hQ2486 ?hy2486 ?hS2486 ?hrest2486
      case hi2486 => (simp only [List.getElem?_toArray, List.getElem?_cons_succ, List.getElem?_cons_zero] <;> exact rfl)
      case hs2486 => kernel_rfl
      case hf2486 => kernel_rfl
      case hr2486 => kernel_rfl
      case hQ2486 => exact fun _ _ _ h => h
      case hS2486 => assumption
      case hy2486 => (refine Or.inl ⟨by rfl, ?_⟩; intro w hSw; (try dsimp only at hSw); obtain ⟨z0, z1, z2, z3, z4⟩ := hSw; go_simp; try with_reducible rfl)
      simp only [Act.put, List.setIfInBounds_toArray, List.set_cons_zero, List.set_cons_succ]
      refine wpAnyH_take (i := 3) (oi := ?oi2495) (v := ?val2495) ?hi2495 ?hs2495 ?hf2495 ?hr2495 ?hQ2495 ?hy2495 ?hS2495 ?hrest2495
      case hi2495 => (simp only [List.getElem?_toArray, List.getElem?_cons_succ, List.getElem?_cons_zero] <;> exact rfl)
      case hs2495 => kernel_rfl
      case hf2495 => kernel_rfl
      case hr2495 => kernel_rfl
      case hQ2495 => exact fun _ _ _ h => h
      case hS2495 => assumption
      case hy2495 => (refine Or.inl ⟨by rfl, ?_⟩; intro w hSw; (try dsimp only at hSw); obtain ⟨z0, z1, z2, z3, z4⟩ := hSw; go_simp; try with_reducible rfl)
      simp only [Act.put, List.setIfInBounds_toArray, List.set_cons_zero, List.set_cons_succ]
      refine wpAnyH_take (i := 4) (oi := ?oi2504) (v := ?val2504) ?hi2504 ?hs2504 ?hf2504 ?hr2504 ?hQ2504 ?hy2504 ?hS2504 ?hrest2504
      case hi2504 => (simp only [List.getElem?_toArray, List.getElem?_cons_succ, List.getElem?_cons_zero] <;> exact rfl)
      case hs2504 => kernel_rfl
      case hf2504 => kernel_rfl
      case hr2504 => kernel_rfl
      case hQ2504 => exact fun _ _ _ h => h
      case hS2504 => assumption
      case hy2504 => (refine Or.inl ⟨by rfl, ?_⟩; intro w hSw; (try dsimp only at hSw); obtain ⟨z0, z1, z2, z3, z4⟩ := hSw; go_simp; try with_reducible rfl)
      simp only [Act.put, List.setIfInBounds_toArray, List.set_cons_zero, List.set_cons_succ]
      refine wpAnyH_take (i := 5) (oi := ?oi2513) (v := ?val2513) ?hi2513 ?hs2513 ?hf2513 ?hr2513 ?hQ2513 ?hy2513 ?hS2513 ?hrest2513
      case hi2513 => (simp only [List.getElem?_toArray, List.getElem?_cons_succ, List.getElem?_cons_zero] <;> exact rfl)
      case hs2513 => kernel_rfl
      case hf2513 => kernel_rfl
      case hr2513 => kernel_rfl
      case hQ2513 => exact fun _ _ _ h => h
      case hS2513 => assumption
      case hy2513 => (refine Or.inl ⟨by rfl, ?_⟩; intro w hSw; (try dsimp only at hSw); obtain ⟨z0, z1, z2, z3, z4⟩ := hSw; go_simp; try with_reducible rfl)
      simp only [Act.put, List.setIfInBounds_toArray, List.set_cons_zero, List.set_cons_succ]
      refine wpAnyH_take (i := 6) (oi := ?oi2522) (v := ?val2522) ?hi2522 ?hs2522 ?hf2522 ?hr2522 ?hQ2522 ?hy2522 ?hS2522 ?hrest2522
      case hi2522 => (simp only [List.getElem?_toArray, List.getElem?_cons_succ, List.getElem?_cons_zero] <;> exact rfl)
      case hs2522 => kernel_rfl
      case hf2522 => kernel_rfl
      case hr2522 => kernel_rfl
      case hQ2522 => exact fun _ _ _ h => h
      case hS2522 => assumption
      case hy2522 => (refine Or.inl ⟨by rfl, ?_⟩; intro w hSw; (try dsimp only at hSw); obtain ⟨z0, z1, z2, z3, z4⟩ := hSw; go_simp; try with_reducible rfl)
      simp only [Act.put, List.setIfInBounds_toArray, List.set_cons_zero, List.set_cons_succ]
      refine wpAnyH_take (i := 7) (oi := ?oi2531) (v := ?val2531) ?hi2531 ?hs2531 ?hf2531 ?hr2531 ?hQ2531 ?hy2531 ?hS2531 ?hrest2531
      case hi2531 => (simp only [List.getElem?_toArray, List.getElem?_cons_succ, List.getElem?_cons_zero] <;> exact rfl)
      case hs2531 => kernel_rfl
      case hf2531 => kernel_rfl
      case hr2531 => kernel_rfl
      case hQ2531 => exact fun _ _ _ h => h
      case hS2531 => assumption
      case hy2531 => (refine Or.inl ⟨by rfl, ?_⟩; intro w hSw; (try dsimp only at hSw); obtain ⟨z0, z1, z2, z3, z4⟩ := hSw; go_simp; try with_reducible rfl)
      simp only [Act.put, List.setIfInBounds_toArray, List.set_cons_zero, List.set_cons_succ]
      refine wpAnyH_take (i := 8) (oi := ?oi2540) (v := ?val2540) ?hi2540 ?hs2540 ?hf2540 ?hr2540 ?hQ2540 ?hy2540 ?hS2540 ?hrest2540
      case hi2540 => (simp only [List.getElem?_toArray, List.getElem?_cons_succ, List.getElem?_cons_zero] <;> exact rfl)
      case hs2540 => kernel_rfl
      case hf2540 => kernel_rfl
      case hr2540 => kernel_rfl
      case hQ2540 => exact fun _ _ _ h => h
      case hS2540 => assumption
      case hy2540 => (refine Or.inl ⟨by rfl, ?_⟩; intro w hSw; (try dsimp only at hSw); obtain ⟨z0, z1, z2, z3, z4⟩ := hSw; go_simp; try with_reducible rfl)
      simp only [Act.put, List.setIfInBounds_toArray, List.set_cons_zero, List.set_cons_succ]
      refine wpAnyH_take (i := 10) (oi := ?oi2549) (v := ?val2549) ?hi2549 ?hs2549 ?hf2549 ?hr2549 ?hQ2549 ?hy2549 ?hS2549 ?hrest2549
      case hi2549 => (simp only [List.getElem?_toArray, List.getElem?_cons_succ, List.getElem?_cons_zero] <;> exact rfl)
      case hs2549 => kernel_rfl
      case hf2549 => kernel_rfl
      case hr2549 => kernel_rfl
      case hQ2549 => exact fun _ _ _ h => h
      case hS2549 => assumption
      case hy2549 => (refine Or.inl ⟨by rfl, ?_⟩; intro w hSw; (try dsimp only at hSw); obtain ⟨z0, z1, z2, z3, z4⟩ := hSw; go_simp; try with_reducible rfl)
      simp only [Act.put, List.setIfInBounds_toArray, List.set_cons_zero, List.set_cons_succ]
      refine wpAnyH_take (i := 11) (oi := ?oi2558) (v := ?val2558) ?hi2558 ?hs2558 ?hf2558 ?hr2558 ?hQ2558 ?hy2558 ?hS2558 ?hrest2558
      case hi2558 => (simp only [List.getElem?_toArray, List.getElem?_cons_succ, List.getElem?_cons_zero] <;> exact rfl)
      case hs2558 => kernel_rfl
      case hf2558 => kernel_rfl
      case hr2558 => kernel_rfl
      case hQ2558 => exact fun _ _ _ h => h
      case hS2558 => assumption
      case hy2558 => (refine Or.inl ⟨by rfl, ?_⟩; intro w hSw; (try dsimp only at hSw); obtain ⟨z0, z1, z2, z3, z4⟩ := hSw; go_simp; try with_reducible rfl)
      simp only [Act.put, List.setIfInBounds_toArray, List.set_cons_zero, List.set_cons_succ]
      refine wpAnyH_take (i := 12) (oi := ?oi2567) (v := ?val2567) ?hi2567 ?hs2567 ?hf2567 ?hr2567 ?hQ2567 ?hy2567 ?hS2567 ?hrest2567
      case hi2567 => (simp only [List.getElem?_toArray, List.getElem?_cons_succ, List.getElem?_cons_zero] <;> exact rfl)
      case hs2567 => kernel_rfl
      case hf2567 => kernel_rfl
      case hr2567 => kernel_rfl
      case hQ2567 => exact fun _ _ _ h => h
      case hS2567 => assumption
      case hy2567 => (refine Or.inl ⟨by rfl, ?_⟩; intro w hSw; (try dsimp only at hSw); obtain ⟨z0, z1, z2, z3, z4⟩ := hSw; go_simp; try with_reducible rfl)
      simp only [Act.put, List.setIfInBounds_toArray, List.set_cons_zero, List.set_cons_succ]
      refine wpAnyH_ready (rs := [9]) (by kernel_rfl) (by simp) ?_
      refine AllReadyH.cons rfl (fun K hK => ?_) AllReadyH.nil
      (go_simp; (with_reducible refine (implGrowsOn_any 2 B k d rs s _ (Rd.drew HR_s_14.out) Hk.out hkb Hzs.out hsb).mono ?_); rintro e w15 ⟨rfl, bb⟩; have bd := ((Below.refl w14.heap.size w14).drew).trans bb; rw [Hgr.out]; have hQ_s := HB_s_14.out.below bd HB_s_14.out.lt; have hQ_r := HB_r_14.out.below bd HB_r_14.out.lt)
      refine hK.out _ _ ((by exact ⟨by rw [hQ_s.cell]; rfl, by rw [hQ_s.cell]; rfl, by rw [hQ_r.cell]; rfl, by rw [hQ_r.cell]; rfl, by rw [hQ_r.cell]; rfl⟩)) (fun hHeld2 => ?_)
      clear hK K hHeld
      have hHeld := hHeld2
      clear hHeld2
      first | simp only [Act.put, List.setIfInBounds_toArray, List.set_cons_zero, List.set_cons_succ] | skip
      clear hQ_s hQ_r
      refine wpAnyH_take (i := 13) (oi := ?oi2585) (v := ?val2585) ?hi2585 ?hs2585 ?hf2585 ?hr2585 ?hQ2585 ?hy2585 ?hS2585 ?hrest2585
      case hi2585 => (simp only [List.getElem?_toArray, List.getElem?_cons_succ, List.getElem?_cons_zero] <;> exact rfl)
      case hs2585 => kernel_rfl
      case hf2585 => kernel_rfl
      case hr2585 => kernel_rfl
      case hQ2585 => exact fun _ _ _ h => h
      case hS2585 => assumption
      case hy2585 => (refine Or.inl ⟨by rfl, ?_⟩; intro w hSw; (try dsimp only at hSw); obtain ⟨z0, z1, z2, z3, z4⟩ := hSw; go_simp; try with_reducible rfl)
      simp only [Act.put, List.setIfInBounds_toArray, List.set_cons_zero, List.set_cons_succ]
      refine wpAnyH_take (i := 14) (oi := ?oi2594) (v := ?val2594) ?hi2594 ?hs2594 ?hf2594 ?hr2594 ?hQ2594 ?hy2594 ?hS2594 ?hrest2594
      case hi2594 => (simp only [List.getElem?_toArray, List.getElem?_cons_succ, List.getElem?_cons_zero] <;> exact rfl)
      case hs2594 => kernel_rfl
      case hf2594 => kernel_rfl
      case hr2594 => kernel_rfl
      case hQ2594 => exact fun _ _ _ h => h
      case hS2594 => assumption
      case hy2594 => (refine Or.inl ⟨by rfl, ?_⟩; intro w hSw; (try dsimp only at hSw); obtain ⟨z0, z1, z2, z3, z4⟩ := hSw; go_simp; try with_reducible rfl)
      simp only [Act.put, List.setIfInBounds_toArray, List.set_cons_zero, List.set_cons_succ]
      refine wpAnyH_done (by kernel_rfl) ?_ _
      clear hHeld bb
      clear c_s_0 c_s_1 l_s c_x_0 c_x_1 c_x_2 l_x c_y_0 c_y_1 c_y_2 l_y c_r_0 c_r_1 c_r_2 l_r
      have HB_s_15 := Lib.hid (HB_s_14.out.below bd HB_s_14.out.lt)
      clear HB_s_14
      have HB_x_15 := Lib.hid (HB_x_14.out.below bd HB_x_14.out.lt)
      clear HB_x_14
      have HB_y_15 := Lib.hid (HB_y_14.out.below bd HB_y_14.out.lt)
      clear HB_y_14
      have HB_r_15 := Lib.hid (HB_r_14.out.below bd HB_r_14.out.lt)
      clear HB_r_14
      have HR_s_15 := Lib.hid (HR_s_14.out.keep bd)
      clear HR_s_14
      have HL_15 := Lib.hid (HL_14.out.trans (bd.mono HL_14.out.size))
      clear HL_14
      clear bd
      have c_s_0 : w15.cell? ⟨b_s, 0, none⟩ = some (.int .i64 2) := by rw [HB_s_15.out.cell]; rfl
      have c_s_1 : w15.cell? ⟨b_s, 1, none⟩ = some (.slice B k d) := by rw [HB_s_15.out.cell]; rfl
      have l_s := HB_s_15.out.lt
      have c_x_0 : w15.cell? ⟨b_x, 0, none⟩ = some (.string yw) := by rw [HB_x_15.out.cell]; rfl
      have c_x_1 : w15.cell? ⟨b_x, 1, none⟩ = some (.int .i64 (N : Int)) := by rw [HB_x_15.out.cell]; rfl
      have c_x_2 : w15.cell? ⟨b_x, 2, none⟩ = some (.int .i64 yc) := by rw [HB_x_15.out.cell]; rfl
      have l_x := HB_x_15.out.lt
      have c_y_0 : w15.cell? ⟨b_y, 0, none⟩ = some (.string yw) := by rw [HB_y_15.out.cell]; rfl
      have c_y_1 : w15.cell? ⟨b_y, 1, none⟩ = some (.int .i64 (N : Int)) := by rw [HB_y_15.out.cell]; rfl
      have c_y_2 : w15.cell? ⟨b_y, 2, none⟩ = some (.int .i64 yc) := by rw [HB_y_15.out.cell]; rfl
      have l_y := HB_y_15.out.lt
      have c_r_0 : w15.cell? ⟨b_r, 0, none⟩ = some (.string rw) := by rw [HB_r_15.out.cell]; rfl
      have c_r_1 : w15.cell? ⟨b_r, 1, none⟩ = some (.int .i64 rn) := by rw [HB_r_15.out.cell]; rfl
      have c_r_2 : w15.cell? ⟨b_r, 2, none⟩ = some (.int .i64 1) := by rw [HB_r_15.out.cell]; rfl
      have l_r := HB_r_15.out.lt
      go_wp2_with fail
      obtain ⟨⟨qw, qn, qc⟩, hq⟩ : ∃ z, z = runAll false 2 rs rw nn := ⟨_, rfl⟩
      have n6 := N4.out
      rw [← hq] at n6
      dsimp only at n6
      subst n6
      have eq_ : runV (qw, qn, qc) = .agg #[.string qw, .int .i64 qn, .int .i64 qc] := rfl
      have hfld : ∀ W, (Instr.field 67 (.agg #[.string qw, .int .i64 qn, .int .i64 qc]) 0).run Try.prog W = .ok (.string qw) W := fun W => rfl
      have Hq := Lib.hid hq
      clear hq
      refine wp_region_held_drew (S := (fun W => W.cell? ⟨b_s, 0, none⟩ = some (.int .i64 2) ∧ W.cell? ⟨b_s, 1, none⟩ = some (.slice B k d) ∧ W.cell? ⟨b_r, 0, none⟩ = some (.string qw) ∧ W.cell? ⟨b_r, 1, none⟩ = some (.int .i64 rn) ∧ W.cell? ⟨b_r, 2, none⟩ = some (.int .i64 1))) (by kernel_rfl) ((by exact ⟨c_s_0, c_s_1, c_r_0, c_r_1, c_r_2⟩)) (fun hHeld => ?_)
      refine wpAnyH_take (i := 0) (oi := ?oi2645) (v := ?val2645) ?hi2645 ?hs2645 ?hf2645 ?hr2645 ?hQ2645 ?hy2645 ?hS2645 ?hrest2645
      case hi2645 => (simp only [List.getElem?_toArray, List.getElem?_cons_succ, List.getElem?_cons_zero] <;> exact rfl)
      case hs2645 => kernel_rfl
      case hf2645 => kernel_rfl
      case hr2645 => kernel_rfl
      case hQ2645 => exact fun _ _ _ h => h
      case hS2645 => assumption
      case hy2645 => (refine Or.inl ⟨by rfl, ?_⟩; intro w hSw; (try dsimp only at hSw); obtain ⟨z0, z1, z2, z3, z4⟩ := hSw; go_simp; try with_reducible rfl)
      simp only [Act.put, List.setIfInBounds_toArray, List.set_cons_zero, List.set_cons_succ]
      refine wpAnyH_take (i := 1) (oi := ?oi2654) (v := ?val2654) ?hi2654 ?hs2654 ?hf2654 ?hr2654 ?hQ2654 ?hy2654 ?hS2654 ?hrest2654
      case hi2654 => (simp only [List.getElem?_toArray, List.getElem?_cons_succ, List.getElem?_cons_zero] <;> exact rfl)
      case hs2654 => kernel_rfl
      case hf2654 => kernel_rfl
      case hr2654 => kernel_rfl
      case hQ2654 => exact fun _ _ _ h => h
      case hS2654 => assumption
      case hy2654 => (refine Or.inl ⟨by rfl, ?_⟩; intro w hSw; (try dsimp only at hSw); obtain ⟨z0, z1, z2, z3, z4⟩ := hSw; go_simp; try with_reducible rfl)
      simp only [Act.put, List.setIfInBounds_toArray, List.set_cons_zero, List.set_cons_succ]
      refine wpAnyH_take (i := 2) (oi := ?oi2663) (v := ?val2663) ?hi2663 ?hs2663 ?hf2663 ?hr2663 ?hQ2663 ?hy2663 ?hS2663 ?hrest2663
      case hi2663 => (simp only [List.getElem?_toArray, List.getElem?_cons_succ, List.getElem?_cons_zero] <;> exact rfl)
      case hs2663 => kernel_rfl
      case hf2663 => kernel_rfl
      case hr2663 => kernel_rfl
      case hQ2663 => exact fun _ _ _ h => h
      case hS2663 => assumption
      case hy2663 => (refine Or.inl ⟨by rfl, ?_⟩; intro w hSw; (try dsimp only at hSw); obtain ⟨z0, z1, z2, z3, z4⟩ := hSw; go_simp; try with_reducible rfl)
      simp only [Act.put, List.setIfInBounds_toArray, List.set_cons_zero, List.set_cons_succ]
      refine wpAnyH_take (i := 3) (oi := ?oi2672) (v := ?val2672) ?hi2672 ?hs2672 ?hf2672 ?hr2672 ?hQ2672 ?hy2672 ?hS2672 ?hrest2672
      case hi2672 => (simp only [List.getElem?_toArray, List.getElem?_cons_succ, List.getElem?_cons_zero] <;> exact rfl)
      case hs2672 => kernel_rfl
      case hf2672 => kernel_rfl
      case hr2672 => kernel_rfl
      case hQ2672 => exact fun _ _ _ h => h
      case hS2672 => assumption
      case hy2672 => (refine Or.inl ⟨by rfl, ?_⟩; intro w hSw; (try dsimp only at hSw); obtain ⟨z0, z1, z2, z3, z4⟩ := hSw; go_simp; try with_reducible rfl)
      simp only [Act.put, List.setIfInBounds_toArray, List.set_cons_zero, List.set_cons_succ]
      refine wpAnyH_take (i := 4) (oi := ?oi2681) (v := ?val2681) ?hi2681 ?hs2681 ?hf2681 ?hr2681 ?hQ2681 ?hy2681 ?hS2681 ?hrest2681
      case hi2681 => (simp only [List.getElem?_toArray, List.getElem?_cons_succ, List.getElem?_cons_zero] <;> exact rfl)
      case hs2681 => kernel_rfl
      case hf2681 => kernel_rfl
      case hr2681 => kernel_rfl
      case hQ2681 => exact fun _ _ _ h => h
      case hS2681 => assumption
      case hy2681 => (refine Or.inl ⟨by rfl, ?_⟩; intro w hSw; (try dsimp only at hSw); obtain ⟨z0, z1, z2, z3, z4⟩ := hSw; go_simp; try with_reducible rfl)
      simp only [Act.put, List.setIfInBounds_toArray, List.set_cons_zero, List.set_cons_succ]
      refine wpAnyH_take (i := 5) (oi := ?oi2690) (v := ?val2690) ?hi2690 ?hs2690 ?hf2690 ?hr2690 ?hQ2690 ?hy2690 ?hS2690 ?hrest2690
      case hi2690 => (simp only [List.getElem?_toArray, List.getElem?_cons_succ, List.getElem?_cons_zero] <;> exact rfl)
      case hs2690 => kernel_rfl
      case hf2690 => kernel_rfl
      case hr2690 => kernel_rfl
      case hQ2690 => exact fun _ _ _ h => h
      case hS2690 => assumption
      case hy2690 => (refine Or.inl ⟨by rfl, ?_⟩; intro w hSw; (try dsimp only at hSw); obtain ⟨z0, z1, z2, z3, z4⟩ := hSw; go_simp; try with_reducible rfl)
      simp only [Act.put, List.setIfInBounds_toArray, List.set_cons_zero, List.set_cons_succ]
      refine wpAnyH_take (i := 6) (oi := ?oi2699) (v := ?val2699) ?hi2699 ?hs2699 ?hf2699 ?hr2699 ?hQ2699 ?hy2699 ?hS2699 ?hrest2699
      case hi2699 => (simp only [List.getElem?_toArray, List.getElem?_cons_succ, List.getElem?_cons_zero] <;> exact rfl)
      case hs2699 => kernel_rfl
      case hf2699 => kernel_rfl
      case hr2699 => kernel_rfl
      case hQ2699 => exact fun _ _ _ h => h
      case hS2699 => assumption
      case hy2699 => (refine Or.inl ⟨by rfl, ?_⟩; intro w hSw; (try dsimp only at hSw); obtain ⟨z0, z1, z2, z3, z4⟩ := hSw; go_simp; try with_reducible rfl)
      simp only [Act.put, List.setIfInBounds_toArray, List.set_cons_zero, List.set_cons_succ]
      refine wpAnyH_take (i := 9) (oi := ?oi2708) (v := ?val2708) ?hi2708 ?hs2708 ?hf2708 ?hr2708 ?hQ2708 ?hy2708 ?hS2708 ?hrest2708
      case hi2708 => (simp only [List.getElem?_toArray, List.getElem?_cons_succ, List.getElem?_cons_zero] <;> exact rfl)
      case hs2708 => kernel_rfl
      case hf2708 => kernel_rfl
      case hr2708 => kernel_rfl
      case hQ2708 => exact fun _ _ _ h => h
      case hS2708 => assumption
      case hy2708 => (refine Or.inl ⟨by rfl, ?_⟩; intro w hSw; (try dsimp only at hSw); obtain ⟨z0, z1, z2, z3, z4⟩ := hSw; go_simp; try with_reducible rfl)
      simp only [Act.put, List.setIfInBounds_toArray, List.set_cons_zero, List.set_cons_succ]
      refine wpAnyH_take (i := 10) (oi := ?oi2717) (v := ?val2717) ?hi2717 ?hs2717 ?hf2717 ?hr2717 ?hQ2717 ?hy2717 ?hS2717 ?hrest2717
      case hi2717 => (simp only [List.getElem?_toArray, List.getElem?_cons_succ, List.getElem?_cons_zero] <;> exact rfl)
      case hs2717 => kernel_rfl
      case hf2717 => kernel_rfl
      case hr2717 => kernel_rfl
      case hQ2717 => exact fun _ _ _ h => h
      case hS2717 => assumption
      case hy2717 => (refine Or.inl ⟨by rfl, ?_⟩; intro w hSw; (try dsimp only at hSw); obtain ⟨z0, z1, z2, z3, z4⟩ := hSw; go_simp; try with_reducible rfl)
      simp only [Act.put, List.setIfInBounds_toArray, List.set_cons_zero, List.set_cons_succ]
      refine wpAnyH_ready (rs := [7]) (by kernel_rfl) (by simp) ?_
      refine AllReadyH.cons rfl (fun K hK => ?_) AllReadyH.nil
      (go_simp; (with_reducible refine (implRunFirst_any 2 B k d rs qw nn _ (Rd.drew HR_s_15.out) Hk.out hkb Hzs.out hrb).mono ?_); rintro e w16 ⟨rfl, bb⟩; have bd := ((Below.refl w15.heap.size w15).drew).trans bb; rw [← Hq.out, eq_]; have hQ_s := HB_s_15.out.below bd HB_s_15.out.lt; have hQ_r := HB_r_15.out.below bd HB_r_15.out.lt)
      refine hK.out _ _ ((by exact ⟨by rw [hQ_s.cell]; rfl, by rw [hQ_s.cell]; rfl, by rw [hQ_r.cell]; rfl, by rw [hQ_r.cell]; rfl, by rw [hQ_r.cell]; rfl⟩)) (fun hHeld2 => ?_)
      clear hK K hHeld
      have hHeld := hHeld2
      clear hHeld2
      first | simp only [Act.put, List.setIfInBounds_toArray, List.set_cons_zero, List.set_cons_succ] | skip
      clear hQ_s hQ_r
      refine wpAnyH_take (i := 8) (oi := ?oi2735) (v := ?val2735) ?hi2735 ?hs2735 ?hf2735 ?hr2735 ?hQ2735 ?hy2735 ?hS2735 ?hrest2735
      case hi2735 => (simp only [List.getElem?_toArray, List.getElem?_cons_succ, List.getElem?_cons_zero] <;> exact rfl)
      case hs2735 => kernel_rfl
      case hf2735 => kernel_rfl
      case hr2735 => kernel_rfl
      case hQ2735 => exact fun _ _ _ h => h
      case hS2735 => assumption
      case hy2735 => (refine Or.inl ⟨by rfl, ?_⟩; intro w hSw; (try dsimp only at hSw); obtain ⟨z0, z1, z2, z3, z4⟩ := hSw; go_simp; try with_reducible rfl)
      simp only [Act.put, List.setIfInBounds_toArray, List.set_cons_zero, List.set_cons_succ]
      refine wpAnyH_take (i := 11) (oi := ?oi2744) (v := ?val2744) ?hi2744 ?hs2744 ?hf2744 ?hr2744 ?hQ2744 ?hy2744 ?hS2744 ?hrest2744
      case hi2744 => (simp only [List.getElem?_toArray, List.getElem?_cons_succ, List.getElem?_cons_zero] <;> exact rfl)
      case hs2744 => kernel_rfl
      case hf2744 => kernel_rfl
      case hr2744 => kernel_rfl
      case hQ2744 => exact fun _ _ _ h => h
      case hS2744 => assumption
      case hy2744 => (refine Or.inl ⟨by rfl, ?_⟩; intro w hSw; (try dsimp only at hSw); obtain ⟨z0, z1, z2, z3, z4⟩ := hSw; go_simp; try with_reducible rfl)
      simp only [Act.put, List.setIfInBounds_toArray, List.set_cons_zero, List.set_cons_succ]
      refine wpAnyH_take (i := 12) (oi := ?oi2753) (v := ?val2753) ?hi2753 ?hs2753 ?hf2753 ?hr2753 ?hQ2753 ?hy2753 ?hS2753 ?hrest2753
      case hi2753 => (simp only [List.getElem?_toArray, List.getElem?_cons_succ, List.getElem?_cons_zero] <;> exact rfl)
      case hs2753 => kernel_rfl
      case hf2753 => kernel_rfl
      case hr2753 => kernel_rfl
      case hQ2753 => exact fun _ _ _ h => h
      case hS2753 => assumption
      case hy2753 => (refine Or.inl ⟨by rfl, ?_⟩; intro w hSw; (try dsimp only at hSw); obtain ⟨z0, z1, z2, z3, z4⟩ := hSw; go_simp; try with_reducible rfl)
      simp only [Act.put, List.setIfInBounds_toArray, List.set_cons_zero, List.set_cons_succ]
      refine wpAnyH_done (by kernel_rfl) ?_ _
      clear hHeld bb
      clear c_s_0 c_s_1 l_s c_x_0 c_x_1 c_x_2 l_x c_y_0 c_y_1 c_y_2 l_y c_r_0 c_r_1 c_r_2 l_r
      have HB_s_16 := Lib.hid (HB_s_15.out.below bd HB_s_15.out.lt)
      clear HB_s_15
      have HB_x_16 := Lib.hid (HB_x_15.out.below bd HB_x_15.out.lt)
      clear HB_x_15
      have HB_y_16 := Lib.hid (HB_y_15.out.below bd HB_y_15.out.lt)
      clear HB_y_15
      have HB_r_16 := Lib.hid (HB_r_15.out.below bd HB_r_15.out.lt)
      clear HB_r_15
      have HR_s_16 := Lib.hid (HR_s_15.out.keep bd)
      clear HR_s_15
      have HL_16 := Lib.hid (HL_15.out.trans (bd.mono HL_15.out.size))
      clear HL_15
      clear bd
      have c_s_0 : w16.cell? ⟨b_s, 0, none⟩ = some (.int .i64 2) := by rw [HB_s_16.out.cell]; rfl
      have c_s_1 : w16.cell? ⟨b_s, 1, none⟩ = some (.slice B k d) := by rw [HB_s_16.out.cell]; rfl
      have l_s := HB_s_16.out.lt
      have c_x_0 : w16.cell? ⟨b_x, 0, none⟩ = some (.string yw) := by rw [HB_x_16.out.cell]; rfl
      have c_x_1 : w16.cell? ⟨b_x, 1, none⟩ = some (.int .i64 (N : Int)) := by rw [HB_x_16.out.cell]; rfl
      have c_x_2 : w16.cell? ⟨b_x, 2, none⟩ = some (.int .i64 yc) := by rw [HB_x_16.out.cell]; rfl
      have l_x := HB_x_16.out.lt
      have c_y_0 : w16.cell? ⟨b_y, 0, none⟩ = some (.string yw) := by rw [HB_y_16.out.cell]; rfl
      have c_y_1 : w16.cell? ⟨b_y, 1, none⟩ = some (.int .i64 (N : Int)) := by rw [HB_y_16.out.cell]; rfl
      have c_y_2 : w16.cell? ⟨b_y, 2, none⟩ = some (.int .i64 yc) := by rw [HB_y_16.out.cell]; rfl
      have l_y := HB_y_16.out.lt
      have c_r_0 : w16.cell? ⟨b_r, 0, none⟩ = some (.string qw) := by rw [HB_r_16.out.cell]; rfl
      have c_r_1 : w16.cell? ⟨b_r, 1, none⟩ = some (.int .i64 rn) := by rw [HB_r_16.out.cell]; rfl
      have c_r_2 : w16.cell? ⟨b_r, 2, none⟩ = some (.int .i64 1) := by rw [HB_r_16.out.cell]; rfl
      have l_r := HB_r_16.out.lt
      clear hfld eq_
      clear c_s_0 c_s_1 l_s c_x_0 c_x_1 c_x_2 l_x c_y_0 c_y_1 c_y_2 l_y c_r_0 c_r_1 c_r_2 l_r
      clear HB_s_16
      clear HB_x_16
      clear HB_y_16
      clear HB_r_16
      clear HR_s_16
      (try go_wp2_with fail)
      with_reducible refine (HMo.out _ HL_16.out).mono ?_
      rintro e w17 ⟨l2, B2, k2, d2, rs2, hsy, hk2, rfl, hO2, bb⟩
      have HL_17 := Lib.hid (HL_16.out.trans (bb.mono HL_16.out.size))
      clear HL_16
      clear bb
      have hin := sys_in hsy
      obtain ⟨L, rfl⟩ : ∃ L : Nat, l2 = (L : Int) := ⟨l2.toNat, by omega⟩
      have hkb2 : k2 ≤ 1048576 := by omega
      have hzs2 := sys_sizes (sys_rules hsy)
      have HRo := Lib.hid (Rd.of_own hO2)
      have hL1 : 1 ≤ L := by omega
      have hL4 : L ≤ 4 := by omega
      clear hO2 hin
      have Hk2 := Lib.hid hk2
      clear hk2
      have Hzs2 := Lib.hid hzs2
      clear hzs2
      have Hsy := Lib.hid hsy
      clear hsy
      have bb := (Below.refl w17.heap.size w17).alloc (Nat.le_refl _) (.cells #[.int .i64 (L : Int), .slice B2 k2 d2] 25)
      have hNB := Bk.new w17 25 #[.int .i64 (L : Int), .slice B2 k2 d2]
      go_wp2_with fail
      obtain ⟨b_o, hbn⟩ : ∃ z, z = w17.heap.size := ⟨_, rfl⟩
      obtain ⟨w18, hwn⟩ : ∃ z, z = w17.alloc (.cells #[.int .i64 (L : Int), .slice B2 k2 d2] 25) := ⟨_, rfl⟩
      rw [← hwn] at bb
      rw [← hbn, ← hwn] at hNB
      rw [← hwn]
      try rw [← hbn]
      have HR_o_18 := Lib.hid (HRo.out.keep bb)
      clear HRo
      have HL_18 := Lib.hid (HL_17.out.trans (bb.mono HL_17.out.size))
      clear HL_17
      have HB_o_18 := Lib.hid hNB
      clear hNB bb
      have Hbn_o := Lib.hid hbn
      clear hbn hwn
      have c_o_0 : w18.cell? ⟨b_o, 0, none⟩ = some (.int .i64 (L : Int)) := by rw [HB_o_18.out.cell]; rfl
      have c_o_1 : w18.cell? ⟨b_o, 1, none⟩ = some (.slice B2 k2 d2) := by rw [HB_o_18.out.cell]; rfl
      have l_o := HB_o_18.out.lt
      (try go_wp2_with fail)
      with_reducible refine (HMv.out _ L HL_18.out hL1 hL4).mono ?_
      rintro e w19 ⟨v, hv5, hvL, rfl, bb⟩
      clear c_o_0 c_o_1 l_o
      have HB_o_19 := Lib.hid (HB_o_18.out.below bb HB_o_18.out.lt)
      clear HB_o_18
      have HR_o_19 := Lib.hid (HR_o_18.out.keep bb)
      clear HR_o_18
      have HL_19 := Lib.hid (HL_18.out.trans (bb.mono HL_18.out.size))
      clear HL_18
      clear bb
      have c_o_0 : w19.cell? ⟨b_o, 0, none⟩ = some (.int .i64 (L : Int)) := by rw [HB_o_19.out.cell]; rfl
      have c_o_1 : w19.cell? ⟨b_o, 1, none⟩ = some (.slice B2 k2 d2) := by rw [HB_o_19.out.cell]; rfl
      have l_o := HB_o_19.out.lt
      have hvw : wordOk (L : Int) v = true := wordOk_mk (by omega) (by omega) (by omega) hvL
      have hvb : v.size ≤ 1048576 := by omega
      have htk := takes_mk Hsy.out hvw
      obtain ⟨f, hf⟩ : ∃ f, f = normS rs2 v := ⟨_, rfl⟩
      have e1 : nfS (L : Int) rs2 v = f := by rw [nfS, if_pos htk, hf]
      have e2 : (runAll false (L : Int) rs2 v 500).2.2 = 3 ∨ ((runAll false (L : Int) rs2 v 500).2.2 = 0 ∧ (runAll false (L : Int) rs2 v 500).1 = normS rs2 v) := run_sys (m := 500) Hsy.out hvw (by omega)
      rw [← hf] at e2
      have e3 := ends_sys Hsy.out
      have e4 := runFar_zero (sys_rules Hsy.out) hvw
      clear hf hvL
      have E1 := Lib.hid e1
      clear e1
      have E2 := Lib.hid e2
      clear e2
      have E3 := Lib.hid e3
      clear e3
      have E4 := Lib.hid e4
      clear e4
      have Htk := Lib.hid htk
      clear htk
      have Hvw := Lib.hid hvw
      clear hvw
      (try go_wp2_with fail)
      with_reducible refine (implNormalForm_any (L : Int) B2 k2 d2 rs2 v _ HR_o_19.out Hk2.out hkb2 Hzs2.out hvb).mono ?_
      rintro e w20 ⟨rfl, bb⟩
      clear c_o_0 c_o_1 l_o
      have HB_o_20 := Lib.hid (HB_o_19.out.below bb HB_o_19.out.lt)
      clear HB_o_19
      have HR_o_20 := Lib.hid (HR_o_19.out.keep bb)
      clear HR_o_19
      have HL_20 := Lib.hid (HL_19.out.trans (bb.mono HL_19.out.size))
      clear HL_19
      clear bb
      have c_o_0 : w20.cell? ⟨b_o, 0, none⟩ = some (.int .i64 (L : Int)) := by rw [HB_o_20.out.cell]; rfl
      have c_o_1 : w20.cell? ⟨b_o, 1, none⟩ = some (.slice B2 k2 d2) := by rw [HB_o_20.out.cell]; rfl
      have l_o := HB_o_20.out.lt
      rw [E1.out, Htk.out]
      (try go_wp2_with fail)
      with_reducible refine (implRunFirst_any (L : Int) B2 k2 d2 rs2 v 500 _ HR_o_20.out Hk2.out hkb2 Hzs2.out hvb).mono ?_
      rintro e w21 ⟨rfl, bb⟩
      clear c_o_0 c_o_1 l_o
      have HB_o_21 := Lib.hid (HB_o_20.out.below bb HB_o_20.out.lt)
      clear HB_o_20
      have HR_o_21 := Lib.hid (HR_o_20.out.keep bb)
      clear HR_o_20
      have HL_21 := Lib.hid (HL_20.out.trans (bb.mono HL_20.out.size))
      clear HL_20
      clear bb
      have c_o_0 : w21.cell? ⟨b_o, 0, none⟩ = some (.int .i64 (L : Int)) := by rw [HB_o_21.out.cell]; rfl
      have c_o_1 : w21.cell? ⟨b_o, 1, none⟩ = some (.slice B2 k2 d2) := by rw [HB_o_21.out.cell]; rfl
      have l_o := HB_o_21.out.lt
      obtain ⟨⟨kw, kn, kc⟩, hk⟩ : ∃ z, z = runAll false (L : Int) rs2 v 500 := ⟨_, rfl⟩
      rw [← hk]
      have e_k : runV (kw, kn, kc) = .agg #[.string kw, .int .i64 kn, .int .i64 kc] := rfl
      rw [e_k]
      clear e_k
      have e5 := E2.out
      rw [← hk] at e5
      dsimp only at e5
      clear hk E2
      have E5 := Lib.hid e5
      clear e5
      rcases E5.out with h5 | ⟨h5, h6⟩
      · skip
        subst h5
        clear E5
        have bb := (Below.refl w21.heap.size w21).alloc (Nat.le_refl _) (.cells #[.string kw, .int .i64 kn, .int .i64 3] 67)
        have hNB := Bk.new w21 67 #[.string kw, .int .i64 kn, .int .i64 3]
        go_wp2_with fail
        obtain ⟨b_k, hbn⟩ : ∃ z, z = w21.heap.size := ⟨_, rfl⟩
        obtain ⟨w22, hwn⟩ : ∃ z, z = w21.alloc (.cells #[.string kw, .int .i64 kn, .int .i64 3] 67) := ⟨_, rfl⟩
        rw [← hwn] at bb
        rw [← hbn, ← hwn] at hNB
        rw [← hwn]
        try rw [← hbn]
        clear c_o_0 c_o_1 l_o
        have HB_o_22 := Lib.hid (HB_o_21.out.below bb HB_o_21.out.lt)
        clear HB_o_21
        have HR_o_22 := Lib.hid (HR_o_21.out.keep bb)
        clear HR_o_21
        have HL_22 := Lib.hid (HL_21.out.trans (bb.mono HL_21.out.size))
        clear HL_21
        have HB_k_22 := Lib.hid hNB
        clear hNB bb
        have Hbn_k := Lib.hid hbn
        clear hbn hwn
        have c_o_0 : w22.cell? ⟨b_o, 0, none⟩ = some (.int .i64 (L : Int)) := by rw [HB_o_22.out.cell]; rfl
        have c_o_1 : w22.cell? ⟨b_o, 1, none⟩ = some (.slice B2 k2 d2) := by rw [HB_o_22.out.cell]; rfl
        have l_o := HB_o_22.out.lt
        have c_k_0 : w22.cell? ⟨b_k, 0, none⟩ = some (.string kw) := by rw [HB_k_22.out.cell]; rfl
        have c_k_1 : w22.cell? ⟨b_k, 1, none⟩ = some (.int .i64 kn) := by rw [HB_k_22.out.cell]; rfl
        have c_k_2 : w22.cell? ⟨b_k, 2, none⟩ = some (.int .i64 3) := by rw [HB_k_22.out.cell]; rfl
        have l_k := HB_k_22.out.lt
        (try go_wp2_with fail)
        with_reducible refine (implEndsAlways_any (L : Int) B2 k2 d2 rs2 2 _ HR_o_22.out Hk2.out hkb2 Hzs2.out).mono ?_
        rintro e w23 ⟨rfl, bb⟩
        clear c_o_0 c_o_1 l_o c_k_0 c_k_1 c_k_2 l_k
        have HB_o_23 := Lib.hid (HB_o_22.out.below bb HB_o_22.out.lt)
        clear HB_o_22
        have HB_k_23 := Lib.hid (HB_k_22.out.below bb HB_k_22.out.lt)
        clear HB_k_22
        have HR_o_23 := Lib.hid (HR_o_22.out.keep bb)
        clear HR_o_22
        have HL_23 := Lib.hid (HL_22.out.trans (bb.mono HL_22.out.size))
        clear HL_22
        clear bb
        have c_o_0 : w23.cell? ⟨b_o, 0, none⟩ = some (.int .i64 (L : Int)) := by rw [HB_o_23.out.cell]; rfl
        have c_o_1 : w23.cell? ⟨b_o, 1, none⟩ = some (.slice B2 k2 d2) := by rw [HB_o_23.out.cell]; rfl
        have l_o := HB_o_23.out.lt
        have c_k_0 : w23.cell? ⟨b_k, 0, none⟩ = some (.string kw) := by rw [HB_k_23.out.cell]; rfl
        have c_k_1 : w23.cell? ⟨b_k, 1, none⟩ = some (.int .i64 kn) := by rw [HB_k_23.out.cell]; rfl
        have c_k_2 : w23.cell? ⟨b_k, 2, none⟩ = some (.int .i64 3) := by rw [HB_k_23.out.cell]; rfl
        have l_k := HB_k_23.out.lt
        rw [E3.out]
        obtain ⟨⟨gw, gn, gc⟩, hq⟩ : ∃ z, z = runAll true (L : Int) rs2 v 0 := ⟨_, rfl⟩
        have n6 := E4.out
        rw [← hq] at n6
        dsimp only at n6
        subst n6
        have eq_ : runV (gw, gn, gc) = .agg #[.string gw, .int .i64 gn, .int .i64 gc] := rfl
        have hfld : ∀ W, (Instr.field 67 (.agg #[.string gw, .int .i64 gn, .int .i64 gc]) 0).run Try.prog W = .ok (.string gw) W := fun W => rfl
        have Hq := Lib.hid hq
        clear hq
        (try go_wp2_with fail)
        with_reducible refine (implRunFar_any (L : Int) B2 k2 d2 rs2 gw 0 _ HR_o_23.out Hk2.out hkb2 Hzs2.out hvb).mono ?_
        rintro e w24 ⟨rfl, bb⟩
        clear c_o_0 c_o_1 l_o c_k_0 c_k_1 c_k_2 l_k
        have HB_o_24 := Lib.hid (HB_o_23.out.below bb HB_o_23.out.lt)
        clear HB_o_23
        have HB_k_24 := Lib.hid (HB_k_23.out.below bb HB_k_23.out.lt)
        clear HB_k_23
        have HR_o_24 := Lib.hid (HR_o_23.out.keep bb)
        clear HR_o_23
        have HL_24 := Lib.hid (HL_23.out.trans (bb.mono HL_23.out.size))
        clear HL_23
        clear bb
        have c_o_0 : w24.cell? ⟨b_o, 0, none⟩ = some (.int .i64 (L : Int)) := by rw [HB_o_24.out.cell]; rfl
        have c_o_1 : w24.cell? ⟨b_o, 1, none⟩ = some (.slice B2 k2 d2) := by rw [HB_o_24.out.cell]; rfl
        have l_o := HB_o_24.out.lt
        have c_k_0 : w24.cell? ⟨b_k, 0, none⟩ = some (.string kw) := by rw [HB_k_24.out.cell]; rfl
        have c_k_1 : w24.cell? ⟨b_k, 1, none⟩ = some (.int .i64 kn) := by rw [HB_k_24.out.cell]; rfl
        have c_k_2 : w24.cell? ⟨b_k, 2, none⟩ = some (.int .i64 3) := by rw [HB_k_24.out.cell]; rfl
        have l_k := HB_k_24.out.lt
        rw [← Hq.out, eq_]
        clear eq_
        go_wp2_with fail
        go_ret
        exact ⟨rfl, HL_24.out⟩
      · skip
        subst h5
        subst h6
        clear E5
        have bb := (Below.refl w21.heap.size w21).alloc (Nat.le_refl _) (.cells #[.string kw, .int .i64 kn, .int .i64 0] 67)
        have hNB := Bk.new w21 67 #[.string kw, .int .i64 kn, .int .i64 0]
        go_wp2_with fail
        obtain ⟨b_k, hbn⟩ : ∃ z, z = w21.heap.size := ⟨_, rfl⟩
        obtain ⟨w22, hwn⟩ : ∃ z, z = w21.alloc (.cells #[.string kw, .int .i64 kn, .int .i64 0] 67) := ⟨_, rfl⟩
        rw [← hwn] at bb
        rw [← hbn, ← hwn] at hNB
        rw [← hwn]
        try rw [← hbn]
        clear c_o_0 c_o_1 l_o
        have HB_o_22 := Lib.hid (HB_o_21.out.below bb HB_o_21.out.lt)
        clear HB_o_21
        have HR_o_22 := Lib.hid (HR_o_21.out.keep bb)
        clear HR_o_21
        have HL_22 := Lib.hid (HL_21.out.trans (bb.mono HL_21.out.size))
        clear HL_21
        have HB_k_22 := Lib.hid hNB
        clear hNB bb
        have Hbn_k := Lib.hid hbn
        clear hbn hwn
        have c_o_0 : w22.cell? ⟨b_o, 0, none⟩ = some (.int .i64 (L : Int)) := by rw [HB_o_22.out.cell]; rfl
        have c_o_1 : w22.cell? ⟨b_o, 1, none⟩ = some (.slice B2 k2 d2) := by rw [HB_o_22.out.cell]; rfl
        have l_o := HB_o_22.out.lt
        have c_k_0 : w22.cell? ⟨b_k, 0, none⟩ = some (.string kw) := by rw [HB_k_22.out.cell]; rfl
        have c_k_1 : w22.cell? ⟨b_k, 1, none⟩ = some (.int .i64 kn) := by rw [HB_k_22.out.cell]; rfl
        have c_k_2 : w22.cell? ⟨b_k, 2, none⟩ = some (.int .i64 0) := by rw [HB_k_22.out.cell]; rfl
        have l_k := HB_k_22.out.lt
        (try go_wp2_with fail)
        with_reducible refine (implEndsAlways_any (L : Int) B2 k2 d2 rs2 2 _ HR_o_22.out Hk2.out hkb2 Hzs2.out).mono ?_
        rintro e w23 ⟨rfl, bb⟩
        clear c_o_0 c_o_1 l_o c_k_0 c_k_1 c_k_2 l_k
        have HB_o_23 := Lib.hid (HB_o_22.out.below bb HB_o_22.out.lt)
        clear HB_o_22
        have HB_k_23 := Lib.hid (HB_k_22.out.below bb HB_k_22.out.lt)
        clear HB_k_22
        have HR_o_23 := Lib.hid (HR_o_22.out.keep bb)
        clear HR_o_22
        have HL_23 := Lib.hid (HL_22.out.trans (bb.mono HL_22.out.size))
        clear HL_22
        clear bb
        have c_o_0 : w23.cell? ⟨b_o, 0, none⟩ = some (.int .i64 (L : Int)) := by rw [HB_o_23.out.cell]; rfl
        have c_o_1 : w23.cell? ⟨b_o, 1, none⟩ = some (.slice B2 k2 d2) := by rw [HB_o_23.out.cell]; rfl
        have l_o := HB_o_23.out.lt
        have c_k_0 : w23.cell? ⟨b_k, 0, none⟩ = some (.string kw) := by rw [HB_k_23.out.cell]; rfl
        have c_k_1 : w23.cell? ⟨b_k, 1, none⟩ = some (.int .i64 kn) := by rw [HB_k_23.out.cell]; rfl
        have c_k_2 : w23.cell? ⟨b_k, 2, none⟩ = some (.int .i64 0) := by rw [HB_k_23.out.cell]; rfl
        have l_k := HB_k_23.out.lt
        rw [E3.out]
        obtain ⟨⟨gw, gn, gc⟩, hq⟩ : ∃ z, z = runAll true (L : Int) rs2 v 0 := ⟨_, rfl⟩
        have n6 := E4.out
        rw [← hq] at n6
        dsimp only at n6
        subst n6
        have eq_ : runV (gw, gn, gc) = .agg #[.string gw, .int .i64 gn, .int .i64 gc] := rfl
        have hfld : ∀ W, (Instr.field 67 (.agg #[.string gw, .int .i64 gn, .int .i64 gc]) 0).run Try.prog W = .ok (.string gw) W := fun W => rfl
        have Hq := Lib.hid hq
        clear hq
        (try go_wp2_with fail)
        with_reducible refine (implRunFar_any (L : Int) B2 k2 d2 rs2 gw 0 _ HR_o_23.out Hk2.out hkb2 Hzs2.out hvb).mono ?_
        rintro e w24 ⟨rfl, bb⟩
        clear c_o_0 c_o_1 l_o c_k_0 c_k_1 c_k_2 l_k
        have HB_o_24 := Lib.hid (HB_o_23.out.below bb HB_o_23.out.lt)
        clear HB_o_23
        have HB_k_24 := Lib.hid (HB_k_23.out.below bb HB_k_23.out.lt)
        clear HB_k_23
        have HR_o_24 := Lib.hid (HR_o_23.out.keep bb)
        clear HR_o_23
        have HL_24 := Lib.hid (HL_23.out.trans (bb.mono HL_23.out.size))
        clear HL_23
        clear bb
        have c_o_0 : w24.cell? ⟨b_o, 0, none⟩ = some (.int .i64 (L : Int)) := by rw [HB_o_24.out.cell]; rfl
        have c_o_1 : w24.cell? ⟨b_o, 1, none⟩ = some (.slice B2 k2 d2) := by rw [HB_o_24.out.cell]; rfl
        have l_o := HB_o_24.out.lt
        have c_k_0 : w24.cell? ⟨b_k, 0, none⟩ = some (.string kw) := by rw [HB_k_24.out.cell]; rfl
        have c_k_1 : w24.cell? ⟨b_k, 1, none⟩ = some (.int .i64 kn) := by rw [HB_k_24.out.cell]; rfl
        have c_k_2 : w24.cell? ⟨b_k, 2, none⟩ = some (.int .i64 0) := by rw [HB_k_24.out.cell]; rfl
        have l_k := HB_k_24.out.lt
        rw [← Hq.out, eq_]
        clear eq_
        go_wp2_with fail
        go_ret
        exact ⟨rfl, HL_24.out⟩
    · skip
      have n0 := L2.out h1
      subst n0
      clear L1 L2
      have r1b : (rc == 1) = false := by simp; exact h1
      go_wp2_with fail
      refine wp_region_held_drew (S := (fun W => W.cell? ⟨b_s, 0, none⟩ = some (.int .i64 2) ∧ W.cell? ⟨b_s, 1, none⟩ = some (.slice B k d) ∧ W.cell? ⟨b_r, 0, none⟩ = some (.string rw) ∧ W.cell? ⟨b_r, 1, none⟩ = some (.int .i64 rn) ∧ W.cell? ⟨b_r, 2, none⟩ = some (.int .i64 rc))) (by kernel_rfl) ((by exact ⟨c_s_0, c_s_1, c_r_0, c_r_1, c_r_2⟩)) (fun hHeld => ?_)
      refine wpAnyH_take (i := 0) (oi := ?oi3095) (v := ?val3095) ?hi3095 ?hs3095 ?hf3095 ?hr3095 ?hQ3095 ?hy3095 ?hS3095 ?hrest3095
      case hi3095 => (simp only [List.getElem?_toArray, List.getElem?_cons_succ, List.getElem?_cons_zero] <;> exact rfl)
      case hs3095 => kernel_rfl
      case hf3095 => kernel_rfl
      case hr3095 => kernel_rfl
      case hQ3095 => exact fun _ _ _ h => h
      case hS3095 => assumption
      case hy3095 => (refine Or.inl ⟨by rfl, ?_⟩; intro w hSw; (try dsimp only at hSw); obtain ⟨z0, z1, z2, z3, z4⟩ := hSw; go_simp; try with_reducible rfl)
      simp only [Act.put, List.setIfInBounds_toArray, List.set_cons_zero, List.set_cons_succ]
      refine wpAnyH_take (i := 1) (oi := ?oi3104) (v := ?val3104) ?hi3104 ?hs3104 ?hf3104 ?hr3104 ?hQ3104 ?hy3104 ?hS3104 ?hrest3104
      case hi3104 => (simp only [List.getElem?_toArray, List.getElem?_cons_succ, List.getElem?_cons_zero] <;> exact rfl)
      case hs3104 => kernel_rfl
      case hf3104 => kernel_rfl
      case hr3104 => kernel_rfl
      case hQ3104 => exact fun _ _ _ h => h
      case hS3104 => assumption
      case hy3104 => (refine Or.inl ⟨by rfl, ?_⟩; intro w hSw; (try dsimp only at hSw); obtain ⟨z0, z1, z2, z3, z4⟩ := hSw; go_simp; try with_reducible rfl)
      simp only [Act.put, List.setIfInBounds_toArray, List.set_cons_zero, List.set_cons_succ]
      refine wpAnyH_take (i := 2) (oi := ?oi3113) (v := ?val3113) ?hi3113 ?hs3113 ?hf3113 ?hr3113 ?hQ3113 ?hy3113 ?hS3113 ?hrest3113
      case hi3113 => (simp only [List.getElem?_toArray, List.getElem?_cons_succ, List.getElem?_cons_zero] <;> exact rfl)
      case hs3113 => kernel_rfl
      case hf3113 => kernel_rfl
      case hr3113 => kernel_rfl
      case hQ3113 => exact fun _ _ _ h => h
      case hS3113 => assumption
      case hy3113 => (refine Or.inl ⟨by rfl, ?_⟩; intro w hSw; (try dsimp only at hSw); obtain ⟨z0, z1, z2, z3, z4⟩ := hSw; go_simp; try with_reducible rfl)
      simp only [Act.put, List.setIfInBounds_toArray, List.set_cons_zero, List.set_cons_succ]
      refine wpAnyH_take (i := 3) (oi := ?oi3122) (v := ?val3122) ?hi3122 ?hs3122 ?hf3122 ?hr3122 ?hQ3122 ?hy3122 ?hS3122 ?hrest3122
      case hi3122 => (simp only [List.getElem?_toArray, List.getElem?_cons_succ, List.getElem?_cons_zero] <;> exact rfl)
      case hs3122 => kernel_rfl
      case hf3122 => kernel_rfl
      case hr3122 => kernel_rfl
      case hQ3122 => exact fun _ _ _ h => h
      case hS3122 => assumption
      case hy3122 => (refine Or.inl ⟨by rfl, ?_⟩; intro w hSw; (try dsimp only at hSw); obtain ⟨z0, z1, z2, z3, z4⟩ := hSw; go_simp; try with_reducible rfl)
      simp only [Act.put, List.setIfInBounds_toArray, List.set_cons_zero, List.set_cons_succ]
      refine wpAnyH_take (i := 4) (oi := ?oi3131) (v := ?val3131) ?hi3131 ?hs3131 ?hf3131 ?hr3131 ?hQ3131 ?hy3131 ?hS3131 ?hrest3131
      case hi3131 => (simp only [List.getElem?_toArray, List.getElem?_cons_succ, List.getElem?_cons_zero] <;> exact rfl)
      case hs3131 => kernel_rfl
      case hf3131 => kernel_rfl
      case hr3131 => kernel_rfl
      case hQ3131 => exact fun _ _ _ h => h
      case hS3131 => assumption
      case hy3131 => (refine Or.inl ⟨by rfl, ?_⟩; intro w hSw; (try dsimp only at hSw); obtain ⟨z0, z1, z2, z3, z4⟩ := hSw; go_simp; try with_reducible rfl)
      simp only [Act.put, List.setIfInBounds_toArray, List.set_cons_zero, List.set_cons_succ]
      refine wpAnyH_take (i := 5) (oi := ?oi3140) (v := ?val3140) ?hi3140 ?hs3140 ?hf3140 ?hr3140 ?hQ3140 ?hy3140 ?hS3140 ?hrest3140
      case hi3140 => (simp only [List.getElem?_toArray, List.getElem?_cons_succ, List.getElem?_cons_zero] <;> exact rfl)
      case hs3140 => kernel_rfl
      case hf3140 => kernel_rfl
      case hr3140 => kernel_rfl
      case hQ3140 => exact fun _ _ _ h => h
      case hS3140 => assumption
      case hy3140 => (refine Or.inl ⟨by rfl, ?_⟩; intro w hSw; (try dsimp only at hSw); obtain ⟨z0, z1, z2, z3, z4⟩ := hSw; go_simp; try with_reducible rfl)
      simp only [Act.put, List.setIfInBounds_toArray, List.set_cons_zero, List.set_cons_succ]
      refine wpAnyH_take (i := 6) (oi := ?oi3149) (v := ?val3149) ?hi3149 ?hs3149 ?hf3149 ?hr3149 ?hQ3149 ?hy3149 ?hS3149 ?hrest3149
      case hi3149 => (simp only [List.getElem?_toArray, List.getElem?_cons_succ, List.getElem?_cons_zero] <;> exact rfl)
      case hs3149 => kernel_rfl
      case hf3149 => kernel_rfl
      case hr3149 => kernel_rfl
      case hQ3149 => exact fun _ _ _ h => h
      case hS3149 => assumption
      case hy3149 => (refine Or.inl ⟨by rfl, ?_⟩; intro w hSw; (try dsimp only at hSw); obtain ⟨z0, z1, z2, z3, z4⟩ := hSw; go_simp; try with_reducible rfl)
      simp only [Act.put, List.setIfInBounds_toArray, List.set_cons_zero, List.set_cons_succ]
      refine wpAnyH_take (i := 7) (oi := ?oi3158) (v := ?val3158) ?hi3158 ?hs3158 ?hf3158 ?hr3158 ?hQ3158 ?hy3158 ?hS3158 ?hrest3158
      case hi3158 => (simp only [List.getElem?_toArray, List.getElem?_cons_succ, List.getElem?_cons_zero] <;> exact rfl)
      case hs3158 => kernel_rfl
      case hf3158 => kernel_rfl
      case hr3158 => kernel_rfl
      case hQ3158 => exact fun _ _ _ h => h
      case hS3158 => assumption
      case hy3158 => (refine Or.inl ⟨by rfl, ?_⟩; intro w hSw; (try dsimp only at hSw); obtain ⟨z0, z1, z2, z3, z4⟩ := hSw; go_simp; try with_reducible rfl)
      simp only [Act.put, List.setIfInBounds_toArray, List.set_cons_zero, List.set_cons_succ]
      refine wpAnyH_take (i := 8) (oi := ?oi3167) (v := ?val3167) ?hi3167 ?hs3167 ?hf3167 ?hr3167 ?hQ3167 ?hy3167 ?hS3167 ?hrest3167
      case hi3167 => (simp only [List.getElem?_toArray, List.getElem?_cons_succ, List.getElem?_cons_zero] <;> exact rfl)
      case hs3167 => kernel_rfl
      case hf3167 => kernel_rfl
      case hr3167 => kernel_rfl
      case hQ3167 => exact fun _ _ _ h => h
      case hS3167 => assumption
      case hy3167 => (refine Or.inl ⟨by rfl, ?_⟩; intro w hSw; (try dsimp only at hSw); obtain ⟨z0, z1, z2, z3, z4⟩ := hSw; go_simp; try with_reducible rfl)
      simp only [Act.put, List.setIfInBounds_toArray, List.set_cons_zero, List.set_cons_succ]
      refine wpAnyH_take (i := 10) (oi := ?oi3176) (v := ?val3176) ?hi3176 ?hs3176 ?hf3176 ?hr3176 ?hQ3176 ?hy3176 ?hS3176 ?hrest3176
      case hi3176 => (simp only [List.getElem?_toArray, List.getElem?_cons_succ, List.getElem?_cons_zero] <;> exact rfl)
      case hs3176 => kernel_rfl
      case hf3176 => kernel_rfl
      case hr3176 => kernel_rfl
      case hQ3176 => exact fun _ _ _ h => h
      case hS3176 => assumption
      case hy3176 => (refine Or.inl ⟨by rfl, ?_⟩; intro w hSw; (try dsimp only at hSw); obtain ⟨z0, z1, z2, z3, z4⟩ := hSw; go_simp; try with_reducible rfl)
      simp only [Act.put, List.setIfInBounds_toArray, List.set_cons_zero, List.set_cons_succ]
      refine wpAnyH_take (i := 11) (oi := ?oi3185) (v := ?val3185) ?hi3185 ?hs3185 ?hf3185 ?hr3185 ?hQ3185 ?hy3185 ?hS3185 ?hrest3185
      case hi3185 => (simp only [List.getElem?_toArray, List.getElem?_cons_succ, List.getElem?_cons_zero] <;> exact rfl)
      case hs3185 => kernel_rfl
      case hf3185 => kernel_rfl
      case hr3185 => kernel_rfl
      case hQ3185 => exact fun _ _ _ h => h
      case hS3185 => assumption
      case hy3185 => (refine Or.inl ⟨by rfl, ?_⟩; intro w hSw; (try dsimp only at hSw); obtain ⟨z0, z1, z2, z3, z4⟩ := hSw; go_simp; try with_reducible rfl)
      simp only [Act.put, List.setIfInBounds_toArray, List.set_cons_zero, List.set_cons_succ]
      refine wpAnyH_take (i := 12) (oi := ?oi3194) (v := ?val3194) ?hi3194 ?hs3194 ?hf3194 ?hr3194 ?hQ3194 ?hy3194 ?hS3194 ?hrest3194
      case hi3194 => (simp only [List.getElem?_toArray, List.getElem?_cons_succ, List.getElem?_cons_zero] <;> exact rfl)
      case hs3194 => kernel_rfl
      case hf3194 => kernel_rfl
      case hr3194 => kernel_rfl
      case hQ3194 => exact fun _ _ _ h => h
      case hS3194 => assumption
      case hy3194 => (refine Or.inl ⟨by rfl, ?_⟩; intro w hSw; (try dsimp only at hSw); obtain ⟨z0, z1, z2, z3, z4⟩ := hSw; go_simp; try with_reducible rfl)
      simp only [Act.put, List.setIfInBounds_toArray, List.set_cons_zero, List.set_cons_succ]
      refine wpAnyH_ready (rs := [9]) (by kernel_rfl) (by simp) ?_
      refine AllReadyH.cons rfl (fun K hK => ?_) AllReadyH.nil
      (go_simp; (with_reducible refine (implGrowsOn_any 2 B k d rs s _ (Rd.drew HR_s_14.out) Hk.out hkb Hzs.out hsb).mono ?_); rintro e w15 ⟨rfl, bb⟩; have bd := ((Below.refl w14.heap.size w14).drew).trans bb; rw [Hgr.out]; have hQ_s := HB_s_14.out.below bd HB_s_14.out.lt; have hQ_r := HB_r_14.out.below bd HB_r_14.out.lt)
      refine hK.out _ _ ((by exact ⟨by rw [hQ_s.cell]; rfl, by rw [hQ_s.cell]; rfl, by rw [hQ_r.cell]; rfl, by rw [hQ_r.cell]; rfl, by rw [hQ_r.cell]; rfl⟩)) (fun hHeld2 => ?_)
      clear hK K hHeld
      have hHeld := hHeld2
      clear hHeld2
      first | simp only [Act.put, List.setIfInBounds_toArray, List.set_cons_zero, List.set_cons_succ] | skip
      clear hQ_s hQ_r
      refine wpAnyH_take (i := 13) (oi := ?oi3212) (v := ?val3212) ?hi3212 ?hs3212 ?hf3212 ?hr3212 ?hQ3212 ?hy3212 ?hS3212 ?hrest3212
      case hi3212 => (simp only [List.getElem?_toArray, List.getElem?_cons_succ, List.getElem?_cons_zero] <;> exact rfl)
      case hs3212 => kernel_rfl
      case hf3212 => kernel_rfl
      case hr3212 => kernel_rfl
      case hQ3212 => exact fun _ _ _ h => h
      case hS3212 => assumption
      case hy3212 => (refine Or.inl ⟨by rfl, ?_⟩; intro w hSw; (try dsimp only at hSw); obtain ⟨z0, z1, z2, z3, z4⟩ := hSw; go_simp; try with_reducible rfl)
      simp only [Act.put, List.setIfInBounds_toArray, List.set_cons_zero, List.set_cons_succ]
      refine wpAnyH_take (i := 14) (oi := ?oi3221) (v := ?val3221) ?hi3221 ?hs3221 ?hf3221 ?hr3221 ?hQ3221 ?hy3221 ?hS3221 ?hrest3221
      case hi3221 => (simp only [List.getElem?_toArray, List.getElem?_cons_succ, List.getElem?_cons_zero] <;> exact rfl)
      case hs3221 => kernel_rfl
      case hf3221 => kernel_rfl
      case hr3221 => kernel_rfl
      case hQ3221 => exact fun _ _ _ h => h
      case hS3221 => assumption
      case hy3221 => (refine Or.inl ⟨by rfl, ?_⟩; intro w hSw; (try dsimp only at hSw); obtain ⟨z0, z1, z2, z3, z4⟩ := hSw; go_simp; try with_reducible rfl)
      simp only [Act.put, List.setIfInBounds_toArray, List.set_cons_zero, List.set_cons_succ]
      refine wpAnyH_done (by kernel_rfl) ?_ _
      clear hHeld bb
      clear c_s_0 c_s_1 l_s c_x_0 c_x_1 c_x_2 l_x c_y_0 c_y_1 c_y_2 l_y c_r_0 c_r_1 c_r_2 l_r
      have HB_s_15 := Lib.hid (HB_s_14.out.below bd HB_s_14.out.lt)
      clear HB_s_14
      have HB_x_15 := Lib.hid (HB_x_14.out.below bd HB_x_14.out.lt)
      clear HB_x_14
      have HB_y_15 := Lib.hid (HB_y_14.out.below bd HB_y_14.out.lt)
      clear HB_y_14
      have HB_r_15 := Lib.hid (HB_r_14.out.below bd HB_r_14.out.lt)
      clear HB_r_14
      have HR_s_15 := Lib.hid (HR_s_14.out.keep bd)
      clear HR_s_14
      have HL_15 := Lib.hid (HL_14.out.trans (bd.mono HL_14.out.size))
      clear HL_14
      clear bd
      have c_s_0 : w15.cell? ⟨b_s, 0, none⟩ = some (.int .i64 2) := by rw [HB_s_15.out.cell]; rfl
      have c_s_1 : w15.cell? ⟨b_s, 1, none⟩ = some (.slice B k d) := by rw [HB_s_15.out.cell]; rfl
      have l_s := HB_s_15.out.lt
      have c_x_0 : w15.cell? ⟨b_x, 0, none⟩ = some (.string yw) := by rw [HB_x_15.out.cell]; rfl
      have c_x_1 : w15.cell? ⟨b_x, 1, none⟩ = some (.int .i64 (N : Int)) := by rw [HB_x_15.out.cell]; rfl
      have c_x_2 : w15.cell? ⟨b_x, 2, none⟩ = some (.int .i64 yc) := by rw [HB_x_15.out.cell]; rfl
      have l_x := HB_x_15.out.lt
      have c_y_0 : w15.cell? ⟨b_y, 0, none⟩ = some (.string yw) := by rw [HB_y_15.out.cell]; rfl
      have c_y_1 : w15.cell? ⟨b_y, 1, none⟩ = some (.int .i64 (N : Int)) := by rw [HB_y_15.out.cell]; rfl
      have c_y_2 : w15.cell? ⟨b_y, 2, none⟩ = some (.int .i64 yc) := by rw [HB_y_15.out.cell]; rfl
      have l_y := HB_y_15.out.lt
      have c_r_0 : w15.cell? ⟨b_r, 0, none⟩ = some (.string rw) := by rw [HB_r_15.out.cell]; rfl
      have c_r_1 : w15.cell? ⟨b_r, 1, none⟩ = some (.int .i64 rn) := by rw [HB_r_15.out.cell]; rfl
      have c_r_2 : w15.cell? ⟨b_r, 2, none⟩ = some (.int .i64 rc) := by rw [HB_r_15.out.cell]; rfl
      have l_r := HB_r_15.out.lt
      go_wp2_with fail
      go_region
      obtain ⟨w16, hwn⟩ : ∃ z, z = w15.drew := ⟨_, rfl⟩
      have bb := (Below.refl w15.heap.size w15).drew
      rw [← hwn] at bb
      rw [← hwn]
      clear c_s_0 c_s_1 l_s c_x_0 c_x_1 c_x_2 l_x c_y_0 c_y_1 c_y_2 l_y c_r_0 c_r_1 c_r_2 l_r
      have HB_s_16 := Lib.hid (HB_s_15.out.below bb HB_s_15.out.lt)
      clear HB_s_15
      have HB_x_16 := Lib.hid (HB_x_15.out.below bb HB_x_15.out.lt)
      clear HB_x_15
      have HB_y_16 := Lib.hid (HB_y_15.out.below bb HB_y_15.out.lt)
      clear HB_y_15
      have HB_r_16 := Lib.hid (HB_r_15.out.below bb HB_r_15.out.lt)
      clear HB_r_15
      have HR_s_16 := Lib.hid (HR_s_15.out.keep bb)
      clear HR_s_15
      have HL_16 := Lib.hid (HL_15.out.trans (bb.mono HL_15.out.size))
      clear HL_15
      clear bb hwn
      have c_s_0 : w16.cell? ⟨b_s, 0, none⟩ = some (.int .i64 2) := by rw [HB_s_16.out.cell]; rfl
      have c_s_1 : w16.cell? ⟨b_s, 1, none⟩ = some (.slice B k d) := by rw [HB_s_16.out.cell]; rfl
      have l_s := HB_s_16.out.lt
      have c_x_0 : w16.cell? ⟨b_x, 0, none⟩ = some (.string yw) := by rw [HB_x_16.out.cell]; rfl
      have c_x_1 : w16.cell? ⟨b_x, 1, none⟩ = some (.int .i64 (N : Int)) := by rw [HB_x_16.out.cell]; rfl
      have c_x_2 : w16.cell? ⟨b_x, 2, none⟩ = some (.int .i64 yc) := by rw [HB_x_16.out.cell]; rfl
      have l_x := HB_x_16.out.lt
      have c_y_0 : w16.cell? ⟨b_y, 0, none⟩ = some (.string yw) := by rw [HB_y_16.out.cell]; rfl
      have c_y_1 : w16.cell? ⟨b_y, 1, none⟩ = some (.int .i64 (N : Int)) := by rw [HB_y_16.out.cell]; rfl
      have c_y_2 : w16.cell? ⟨b_y, 2, none⟩ = some (.int .i64 yc) := by rw [HB_y_16.out.cell]; rfl
      have l_y := HB_y_16.out.lt
      have c_r_0 : w16.cell? ⟨b_r, 0, none⟩ = some (.string rw) := by rw [HB_r_16.out.cell]; rfl
      have c_r_1 : w16.cell? ⟨b_r, 1, none⟩ = some (.int .i64 rn) := by rw [HB_r_16.out.cell]; rfl
      have c_r_2 : w16.cell? ⟨b_r, 2, none⟩ = some (.int .i64 rc) := by rw [HB_r_16.out.cell]; rfl
      have l_r := HB_r_16.out.lt
      clear c_s_0 c_s_1 l_s c_x_0 c_x_1 c_x_2 l_x c_y_0 c_y_1 c_y_2 l_y c_r_0 c_r_1 c_r_2 l_r
      clear HB_s_16
      clear HB_x_16
      clear HB_y_16
      clear HB_r_16
      clear HR_s_16
      (try go_wp2_with fail)
      with_reducible refine (HMo.out _ HL_16.out).mono ?_
      rintro e w17 ⟨l2, B2, k2, d2, rs2, hsy, hk2, rfl, hO2, bb⟩
      have HL_17 := Lib.hid (HL_16.out.trans (bb.mono HL_16.out.size))
      clear HL_16
      clear bb
      have hin := sys_in hsy
      obtain ⟨L, rfl⟩ : ∃ L : Nat, l2 = (L : Int) := ⟨l2.toNat, by omega⟩
      have hkb2 : k2 ≤ 1048576 := by omega
      have hzs2 := sys_sizes (sys_rules hsy)
      have HRo := Lib.hid (Rd.of_own hO2)
      have hL1 : 1 ≤ L := by omega
      have hL4 : L ≤ 4 := by omega
      clear hO2 hin
      have Hk2 := Lib.hid hk2
      clear hk2
      have Hzs2 := Lib.hid hzs2
      clear hzs2
      have Hsy := Lib.hid hsy
      clear hsy
      have bb := (Below.refl w17.heap.size w17).alloc (Nat.le_refl _) (.cells #[.int .i64 (L : Int), .slice B2 k2 d2] 25)
      have hNB := Bk.new w17 25 #[.int .i64 (L : Int), .slice B2 k2 d2]
      go_wp2_with fail
      obtain ⟨b_o, hbn⟩ : ∃ z, z = w17.heap.size := ⟨_, rfl⟩
      obtain ⟨w18, hwn⟩ : ∃ z, z = w17.alloc (.cells #[.int .i64 (L : Int), .slice B2 k2 d2] 25) := ⟨_, rfl⟩
      rw [← hwn] at bb
      rw [← hbn, ← hwn] at hNB
      rw [← hwn]
      try rw [← hbn]
      have HR_o_18 := Lib.hid (HRo.out.keep bb)
      clear HRo
      have HL_18 := Lib.hid (HL_17.out.trans (bb.mono HL_17.out.size))
      clear HL_17
      have HB_o_18 := Lib.hid hNB
      clear hNB bb
      have Hbn_o := Lib.hid hbn
      clear hbn hwn
      have c_o_0 : w18.cell? ⟨b_o, 0, none⟩ = some (.int .i64 (L : Int)) := by rw [HB_o_18.out.cell]; rfl
      have c_o_1 : w18.cell? ⟨b_o, 1, none⟩ = some (.slice B2 k2 d2) := by rw [HB_o_18.out.cell]; rfl
      have l_o := HB_o_18.out.lt
      (try go_wp2_with fail)
      with_reducible refine (HMv.out _ L HL_18.out hL1 hL4).mono ?_
      rintro e w19 ⟨v, hv5, hvL, rfl, bb⟩
      clear c_o_0 c_o_1 l_o
      have HB_o_19 := Lib.hid (HB_o_18.out.below bb HB_o_18.out.lt)
      clear HB_o_18
      have HR_o_19 := Lib.hid (HR_o_18.out.keep bb)
      clear HR_o_18
      have HL_19 := Lib.hid (HL_18.out.trans (bb.mono HL_18.out.size))
      clear HL_18
      clear bb
      have c_o_0 : w19.cell? ⟨b_o, 0, none⟩ = some (.int .i64 (L : Int)) := by rw [HB_o_19.out.cell]; rfl
      have c_o_1 : w19.cell? ⟨b_o, 1, none⟩ = some (.slice B2 k2 d2) := by rw [HB_o_19.out.cell]; rfl
      have l_o := HB_o_19.out.lt
      have hvw : wordOk (L : Int) v = true := wordOk_mk (by omega) (by omega) (by omega) hvL
      have hvb : v.size ≤ 1048576 := by omega
      have htk := takes_mk Hsy.out hvw
      obtain ⟨f, hf⟩ : ∃ f, f = normS rs2 v := ⟨_, rfl⟩
      have e1 : nfS (L : Int) rs2 v = f := by rw [nfS, if_pos htk, hf]
      have e2 : (runAll false (L : Int) rs2 v 500).2.2 = 3 ∨ ((runAll false (L : Int) rs2 v 500).2.2 = 0 ∧ (runAll false (L : Int) rs2 v 500).1 = normS rs2 v) := run_sys (m := 500) Hsy.out hvw (by omega)
      rw [← hf] at e2
      have e3 := ends_sys Hsy.out
      have e4 := runFar_zero (sys_rules Hsy.out) hvw
      clear hf hvL
      have E1 := Lib.hid e1
      clear e1
      have E2 := Lib.hid e2
      clear e2
      have E3 := Lib.hid e3
      clear e3
      have E4 := Lib.hid e4
      clear e4
      have Htk := Lib.hid htk
      clear htk
      have Hvw := Lib.hid hvw
      clear hvw
      (try go_wp2_with fail)
      with_reducible refine (implNormalForm_any (L : Int) B2 k2 d2 rs2 v _ HR_o_19.out Hk2.out hkb2 Hzs2.out hvb).mono ?_
      rintro e w20 ⟨rfl, bb⟩
      clear c_o_0 c_o_1 l_o
      have HB_o_20 := Lib.hid (HB_o_19.out.below bb HB_o_19.out.lt)
      clear HB_o_19
      have HR_o_20 := Lib.hid (HR_o_19.out.keep bb)
      clear HR_o_19
      have HL_20 := Lib.hid (HL_19.out.trans (bb.mono HL_19.out.size))
      clear HL_19
      clear bb
      have c_o_0 : w20.cell? ⟨b_o, 0, none⟩ = some (.int .i64 (L : Int)) := by rw [HB_o_20.out.cell]; rfl
      have c_o_1 : w20.cell? ⟨b_o, 1, none⟩ = some (.slice B2 k2 d2) := by rw [HB_o_20.out.cell]; rfl
      have l_o := HB_o_20.out.lt
      rw [E1.out, Htk.out]
      (try go_wp2_with fail)
      with_reducible refine (implRunFirst_any (L : Int) B2 k2 d2 rs2 v 500 _ HR_o_20.out Hk2.out hkb2 Hzs2.out hvb).mono ?_
      rintro e w21 ⟨rfl, bb⟩
      clear c_o_0 c_o_1 l_o
      have HB_o_21 := Lib.hid (HB_o_20.out.below bb HB_o_20.out.lt)
      clear HB_o_20
      have HR_o_21 := Lib.hid (HR_o_20.out.keep bb)
      clear HR_o_20
      have HL_21 := Lib.hid (HL_20.out.trans (bb.mono HL_20.out.size))
      clear HL_20
      clear bb
      have c_o_0 : w21.cell? ⟨b_o, 0, none⟩ = some (.int .i64 (L : Int)) := by rw [HB_o_21.out.cell]; rfl
      have c_o_1 : w21.cell? ⟨b_o, 1, none⟩ = some (.slice B2 k2 d2) := by rw [HB_o_21.out.cell]; rfl
      have l_o := HB_o_21.out.lt
      obtain ⟨⟨kw, kn, kc⟩, hk⟩ : ∃ z, z = runAll false (L : Int) rs2 v 500 := ⟨_, rfl⟩
      rw [← hk]
      have e_k : runV (kw, kn, kc) = .agg #[.string kw, .int .i64 kn, .int .i64 kc] := rfl
      rw [e_k]
      clear e_k
      have e5 := E2.out
      rw [← hk] at e5
      dsimp only at e5
      clear hk E2
      have E5 := Lib.hid e5
      clear e5
      rcases E5.out with h5 | ⟨h5, h6⟩
      · skip
        subst h5
        clear E5
        have bb := (Below.refl w21.heap.size w21).alloc (Nat.le_refl _) (.cells #[.string kw, .int .i64 kn, .int .i64 3] 67)
        have hNB := Bk.new w21 67 #[.string kw, .int .i64 kn, .int .i64 3]
        go_wp2_with fail
        obtain ⟨b_k, hbn⟩ : ∃ z, z = w21.heap.size := ⟨_, rfl⟩
        obtain ⟨w22, hwn⟩ : ∃ z, z = w21.alloc (.cells #[.string kw, .int .i64 kn, .int .i64 3] 67) := ⟨_, rfl⟩
        rw [← hwn] at bb
        rw [← hbn, ← hwn] at hNB
        rw [← hwn]
        try rw [← hbn]
        clear c_o_0 c_o_1 l_o
        have HB_o_22 := Lib.hid (HB_o_21.out.below bb HB_o_21.out.lt)
        clear HB_o_21
        have HR_o_22 := Lib.hid (HR_o_21.out.keep bb)
        clear HR_o_21
        have HL_22 := Lib.hid (HL_21.out.trans (bb.mono HL_21.out.size))
        clear HL_21
        have HB_k_22 := Lib.hid hNB
        clear hNB bb
        have Hbn_k := Lib.hid hbn
        clear hbn hwn
        have c_o_0 : w22.cell? ⟨b_o, 0, none⟩ = some (.int .i64 (L : Int)) := by rw [HB_o_22.out.cell]; rfl
        have c_o_1 : w22.cell? ⟨b_o, 1, none⟩ = some (.slice B2 k2 d2) := by rw [HB_o_22.out.cell]; rfl
        have l_o := HB_o_22.out.lt
        have c_k_0 : w22.cell? ⟨b_k, 0, none⟩ = some (.string kw) := by rw [HB_k_22.out.cell]; rfl
        have c_k_1 : w22.cell? ⟨b_k, 1, none⟩ = some (.int .i64 kn) := by rw [HB_k_22.out.cell]; rfl
        have c_k_2 : w22.cell? ⟨b_k, 2, none⟩ = some (.int .i64 3) := by rw [HB_k_22.out.cell]; rfl
        have l_k := HB_k_22.out.lt
        (try go_wp2_with fail)
        with_reducible refine (implEndsAlways_any (L : Int) B2 k2 d2 rs2 2 _ HR_o_22.out Hk2.out hkb2 Hzs2.out).mono ?_
        rintro e w23 ⟨rfl, bb⟩
        clear c_o_0 c_o_1 l_o c_k_0 c_k_1 c_k_2 l_k
        have HB_o_23 := Lib.hid (HB_o_22.out.below bb HB_o_22.out.lt)
        clear HB_o_22
        have HB_k_23 := Lib.hid (HB_k_22.out.below bb HB_k_22.out.lt)
        clear HB_k_22
        have HR_o_23 := Lib.hid (HR_o_22.out.keep bb)
        clear HR_o_22
        have HL_23 := Lib.hid (HL_22.out.trans (bb.mono HL_22.out.size))
        clear HL_22
        clear bb
        have c_o_0 : w23.cell? ⟨b_o, 0, none⟩ = some (.int .i64 (L : Int)) := by rw [HB_o_23.out.cell]; rfl
        have c_o_1 : w23.cell? ⟨b_o, 1, none⟩ = some (.slice B2 k2 d2) := by rw [HB_o_23.out.cell]; rfl
        have l_o := HB_o_23.out.lt
        have c_k_0 : w23.cell? ⟨b_k, 0, none⟩ = some (.string kw) := by rw [HB_k_23.out.cell]; rfl
        have c_k_1 : w23.cell? ⟨b_k, 1, none⟩ = some (.int .i64 kn) := by rw [HB_k_23.out.cell]; rfl
        have c_k_2 : w23.cell? ⟨b_k, 2, none⟩ = some (.int .i64 3) := by rw [HB_k_23.out.cell]; rfl
        have l_k := HB_k_23.out.lt
        rw [E3.out]
        obtain ⟨⟨gw, gn, gc⟩, hq⟩ : ∃ z, z = runAll true (L : Int) rs2 v 0 := ⟨_, rfl⟩
        have n6 := E4.out
        rw [← hq] at n6
        dsimp only at n6
        subst n6
        have eq_ : runV (gw, gn, gc) = .agg #[.string gw, .int .i64 gn, .int .i64 gc] := rfl
        have hfld : ∀ W, (Instr.field 67 (.agg #[.string gw, .int .i64 gn, .int .i64 gc]) 0).run Try.prog W = .ok (.string gw) W := fun W => rfl
        have Hq := Lib.hid hq
        clear hq
        (try go_wp2_with fail)
        with_reducible refine (implRunFar_any (L : Int) B2 k2 d2 rs2 gw 0 _ HR_o_23.out Hk2.out hkb2 Hzs2.out hvb).mono ?_
        rintro e w24 ⟨rfl, bb⟩
        clear c_o_0 c_o_1 l_o c_k_0 c_k_1 c_k_2 l_k
        have HB_o_24 := Lib.hid (HB_o_23.out.below bb HB_o_23.out.lt)
        clear HB_o_23
        have HB_k_24 := Lib.hid (HB_k_23.out.below bb HB_k_23.out.lt)
        clear HB_k_23
        have HR_o_24 := Lib.hid (HR_o_23.out.keep bb)
        clear HR_o_23
        have HL_24 := Lib.hid (HL_23.out.trans (bb.mono HL_23.out.size))
        clear HL_23
        clear bb
        have c_o_0 : w24.cell? ⟨b_o, 0, none⟩ = some (.int .i64 (L : Int)) := by rw [HB_o_24.out.cell]; rfl
        have c_o_1 : w24.cell? ⟨b_o, 1, none⟩ = some (.slice B2 k2 d2) := by rw [HB_o_24.out.cell]; rfl
        have l_o := HB_o_24.out.lt
        have c_k_0 : w24.cell? ⟨b_k, 0, none⟩ = some (.string kw) := by rw [HB_k_24.out.cell]; rfl
        have c_k_1 : w24.cell? ⟨b_k, 1, none⟩ = some (.int .i64 kn) := by rw [HB_k_24.out.cell]; rfl
        have c_k_2 : w24.cell? ⟨b_k, 2, none⟩ = some (.int .i64 3) := by rw [HB_k_24.out.cell]; rfl
        have l_k := HB_k_24.out.lt
        rw [← Hq.out, eq_]
        clear eq_
        go_wp2_with fail
        go_ret
        exact ⟨rfl, HL_24.out⟩
      · skip
        subst h5
        subst h6
        clear E5
        have bb := (Below.refl w21.heap.size w21).alloc (Nat.le_refl _) (.cells #[.string kw, .int .i64 kn, .int .i64 0] 67)
        have hNB := Bk.new w21 67 #[.string kw, .int .i64 kn, .int .i64 0]
        go_wp2_with fail
        obtain ⟨b_k, hbn⟩ : ∃ z, z = w21.heap.size := ⟨_, rfl⟩
        obtain ⟨w22, hwn⟩ : ∃ z, z = w21.alloc (.cells #[.string kw, .int .i64 kn, .int .i64 0] 67) := ⟨_, rfl⟩
        rw [← hwn] at bb
        rw [← hbn, ← hwn] at hNB
        rw [← hwn]
        try rw [← hbn]
        clear c_o_0 c_o_1 l_o
        have HB_o_22 := Lib.hid (HB_o_21.out.below bb HB_o_21.out.lt)
        clear HB_o_21
        have HR_o_22 := Lib.hid (HR_o_21.out.keep bb)
        clear HR_o_21
        have HL_22 := Lib.hid (HL_21.out.trans (bb.mono HL_21.out.size))
        clear HL_21
        have HB_k_22 := Lib.hid hNB
        clear hNB bb
        have Hbn_k := Lib.hid hbn
        clear hbn hwn
        have c_o_0 : w22.cell? ⟨b_o, 0, none⟩ = some (.int .i64 (L : Int)) := by rw [HB_o_22.out.cell]; rfl
        have c_o_1 : w22.cell? ⟨b_o, 1, none⟩ = some (.slice B2 k2 d2) := by rw [HB_o_22.out.cell]; rfl
        have l_o := HB_o_22.out.lt
        have c_k_0 : w22.cell? ⟨b_k, 0, none⟩ = some (.string kw) := by rw [HB_k_22.out.cell]; rfl
        have c_k_1 : w22.cell? ⟨b_k, 1, none⟩ = some (.int .i64 kn) := by rw [HB_k_22.out.cell]; rfl
        have c_k_2 : w22.cell? ⟨b_k, 2, none⟩ = some (.int .i64 0) := by rw [HB_k_22.out.cell]; rfl
        have l_k := HB_k_22.out.lt
        (try go_wp2_with fail)
        with_reducible refine (implEndsAlways_any (L : Int) B2 k2 d2 rs2 2 _ HR_o_22.out Hk2.out hkb2 Hzs2.out).mono ?_
        rintro e w23 ⟨rfl, bb⟩
        clear c_o_0 c_o_1 l_o c_k_0 c_k_1 c_k_2 l_k
        have HB_o_23 := Lib.hid (HB_o_22.out.below bb HB_o_22.out.lt)
        clear HB_o_22
        have HB_k_23 := Lib.hid (HB_k_22.out.below bb HB_k_22.out.lt)
        clear HB_k_22
        have HR_o_23 := Lib.hid (HR_o_22.out.keep bb)
        clear HR_o_22
        have HL_23 := Lib.hid (HL_22.out.trans (bb.mono HL_22.out.size))
        clear HL_22
        clear bb
        have c_o_0 : w23.cell? ⟨b_o, 0, none⟩ = some (.int .i64 (L : Int)) := by rw [HB_o_23.out.cell]; rfl
        have c_o_1 : w23.cell? ⟨b_o, 1, none⟩ = some (.slice B2 k2 d2) := by rw [HB_o_23.out.cell]; rfl
        have l_o := HB_o_23.out.lt
        have c_k_0 : w23.cell? ⟨b_k, 0, none⟩ = some (.string kw) := by rw [HB_k_23.out.cell]; rfl
        have c_k_1 : w23.cell? ⟨b_k, 1, none⟩ = some (.int .i64 kn) := by rw [HB_k_23.out.cell]; rfl
        have c_k_2 : w23.cell? ⟨b_k, 2, none⟩ = some (.int .i64 0) := by rw [HB_k_23.out.cell]; rfl
        have l_k := HB_k_23.out.lt
        rw [E3.out]
        obtain ⟨⟨gw, gn, gc⟩, hq⟩ : ∃ z, z = runAll true (L : Int) rs2 v 0 := ⟨_, rfl⟩
        have n6 := E4.out
        rw [← hq] at n6
        dsimp only at n6
        subst n6
        have eq_ : runV (gw, gn, gc) = .agg #[.string gw, .int .i64 gn, .int .i64 gc] := rfl
        have hfld : ∀ W, (Instr.field 67 (.agg #[.string gw, .int .i64 gn, .int .i64 gc]) 0).run Try.prog W = .ok (.string gw) W := fun W => rfl
        have Hq := Lib.hid hq
        clear hq
        (try go_wp2_with fail)
        with_reducible refine (implRunFar_any (L : Int) B2 k2 d2 rs2 gw 0 _ HR_o_23.out Hk2.out hkb2 Hzs2.out hvb).mono ?_
        rintro e w24 ⟨rfl, bb⟩
        clear c_o_0 c_o_1 l_o c_k_0 c_k_1 c_k_2 l_k
        have HB_o_24 := Lib.hid (HB_o_23.out.below bb HB_o_23.out.lt)
        clear HB_o_23
        have HB_k_24 := Lib.hid (HB_k_23.out.below bb HB_k_23.out.lt)
        clear HB_k_23
        have HR_o_24 := Lib.hid (HR_o_23.out.keep bb)
        clear HR_o_23
        have HL_24 := Lib.hid (HL_23.out.trans (bb.mono HL_23.out.size))
        clear HL_23
        clear bb
        have c_o_0 : w24.cell? ⟨b_o, 0, none⟩ = some (.int .i64 (L : Int)) := by rw [HB_o_24.out.cell]; rfl
        have c_o_1 : w24.cell? ⟨b_o, 1, none⟩ = some (.slice B2 k2 d2) := by rw [HB_o_24.out.cell]; rfl
        have l_o := HB_o_24.out.lt
        have c_k_0 : w24.cell? ⟨b_k, 0, none⟩ = some (.string kw) := by rw [HB_k_24.out.cell]; rfl
        have c_k_1 : w24.cell? ⟨b_k, 1, none⟩ = some (.int .i64 kn) := by rw [HB_k_24.out.cell]; rfl
        have c_k_2 : w24.cell? ⟨b_k, 2, none⟩ = some (.int .i64 0) := by rw [HB_k_24.out.cell]; rfl
        have l_k := HB_k_24.out.lt
        rw [← Hq.out, eq_]
        clear eq_
        go_wp2_with fail
        go_ret
        exact ⟨rfl, HL_24.out⟩

set_option maxRecDepth 100000 in
theorem lifted_FnRuns (os : Os) (started : os.Started) (H : Type) (enc : TypeId × Value → H) :
    ReturnsInHanded {} Try.checked os 6 .any (Rows.fnRunsSpec.pre6 enc Try.prog Try.f6 Rows.fnRunsRow.domain false) (Rows.fnRunsSpec.post enc Try.prog Try.f6 false true false false) := by
  refine returnsInHanded_of_change (C := Try.checked) own_knob started (by kernel_rfl) Try.func6
    (ChangeSpec.witness6 (enc := enc) (C := Try.checked) false ⟨#[], #[.slice none 0 0], []⟩ 8 (by kernel_rfl) (by kernel_rfl) (by kernel_rfl) (by kernel_rfl)) ?_
  intro W base args ds gs before hval0 hW _ _
  have hval : ∀ (j : Nat) t v, Try.f6.params[j]? = some t → args[j]? = some v → Value.okWide Try.prog W .any base t v := hval0
  have hW' := hW
  obtain ⟨p, q, hA0, hV, rfl, hfz, hnd⟩ := hW
  have hA : DataW.TrodAll enc Try.prog W 0 (fun _ => true) true Try.f6.params.toList args.toList ds p := hA0
  rw [Try.params6] at hA hval
  obtain ⟨v0, vs0, d0, ds0, p0, q0, hargs, rfl, rfl, h0, r0⟩ := trodAll_cons hA
  obtain ⟨rfl, rfl, rfl⟩ := trodAll_nil r0
  obtain rfl : args = #[v0] := by cases args; simp_all
  obtain ⟨rfl, rfl⟩ := trodVars_none hV
  have k0 := h0
  have lt0 : ∀ x ∈ p0, x.block < W.heap.size := by obtain ⟨m, hm⟩ := k0; exact DataW.trod_lt m _ _ _ hm
  obtain ⟨a0, len0, cap0, rfl⟩ := okWide_slice Try.underlying22 (hval 0 22 v0 rfl rfl)
  obtain ⟨z0, R0⟩ := open_byteS h0
  clear hA0 hval0
  refine (law_FnRuns W a0 len0 cap0 z0 R0).mono fun e W' ⟨he, bel⟩ => ?_
  subst he
  exact ⟨_, rfl, _, _, _, [], _, [], hW', trodAll_mk1 (shut_bool Try.underlying4 _), (trodAll_cons_mk (Below.trod laid_out (by kernel_rfl) (of_decide_eq_true (by kernel_rfl)) k0 bel lt0) trodAll_mk0), rfl, bel.frame _, fun h => by cases h⟩

theorem FnRuns_holds : Rows.FnRunsSaid :=
  OpenClaim.holds_of_wide 6 Try.f6 rfl rfl rfl rfl rfl rfl rfl ⟨rfl, rfl, rfl, rfl, rfl⟩ rfl rfl rfl rfl rfl (by kernel_rfl) Try.func6 (by kernel_rfl)
    (of_decide_eq_true (by kernel_rfl)) (by unfold Func.isWrapper; first | (rw [if_pos (by decide +kernel)]; kernel_rfl) | (rw [if_neg (by decide +kernel)]; exact ⟨rfl, rfl⟩))
    (fun os started H enc _ => lifted_FnRuns os started H enc)

end Go.Proofs.Ytidmbeeadbedaaa
