/- For every input the law FnTop returns true and leaves its argument as it was. No condition. -/
import Derived.Test.YteafeecndghapaaGreatMg14
import Derived.Test.YteafeecndghapaaGreatMkC2
import Derived.Test.YteafeecndghapaaGreatMg23
import Derived.Test.YteafeecndghapaaGreatOpnS
namespace Go.Proofs.YteafeecndghapaaGreat
open Go.ChangeShapes Go.WideShapes Go.ChangeAt Go.RowKit Go.Shelf

set_option maxRecDepth 100000 in
set_option maxHeartbeats 40000000 in
theorem law_FnTop (w : World) (A0 : Option Addr) (n0 c0 : Nat) (zs : List Int) (R0 : Rd w A0 (u8c zs) ∧ n0 = zs.length ∧ n0 ≤ maxLen ∧ ∀ z ∈ zs, (Lit.int .u8 z).wf = true) :
    Calls Tryz.prog 3 #[.slice A0 n0 c0] w (Kept w (.bool true)) := by
  obtain ⟨hr, hn, hm0, hwf⟩ := R0
  have hz : ∀ z ∈ zs, 0 ≤ z ∧ z ≤ 255 := fun z h => byte_wf (hwf z h)
  unfold maxLen at hm0
  by_cases hb : n0 ≤ 1048576
  rotate_left
  · have hbi : (1048576 : Int) < (n0 : Int) := by omega
    go_enter Tryz.func3, Tryz.ntmps3
    go_wp2_with fail
    go_ret
    exact ⟨rfl, Below.refl _ _⟩
  have hMk : Calls Tryz.prog 4 #[.slice A0 n0 c0, .int .i64 0] w _ := makeChain_any A0 n0 c0 zs 0 w hr hn hb hz (by omega)
  have hMc : ∀ (W : World), Below w.heap.size w W → Calls Tryz.prog 8 #[.slice A0 n0 c0, .int .i64 40] W _ := fun W h => makeComplete_any A0 n0 c0 zs 40 W (hr.keep h) hn hb hz (by omega)
  have hM1 : ∀ (W : World) (L : Nat), Below w.heap.size w W → 1 ≤ L → L ≤ 4 → Calls Tryz.prog 9 #[.slice A0 n0 c0, .int .i64 80, .int .i64 (L : Int), .int .i64 6] W _ := fun W L h h1 h4 => makeWord_any A0 n0 c0 zs 80 L 6 W (hr.keep h) hn hb hz (by omega) h1 h4 (by omega)
  have hM2 : ∀ (W : World) (L : Nat), Below w.heap.size w W → 1 ≤ L → L ≤ 4 → Calls Tryz.prog 9 #[.slice A0 n0 c0, .int .i64 100, .int .i64 (L : Int), .int .i64 6] W _ := fun W L h h1 h4 => makeWord_any A0 n0 c0 zs 100 L 6 W (hr.keep h) hn hb hz (by omega) h1 h4 (by omega)
  clear hr hn hz hwf hm0
  have HMk := Lib.hid hMk
  clear hMk
  have HMc := Lib.hid hMc
  clear hMc
  have HM1 := Lib.hid hM1
  clear hM1
  have HM2 := Lib.hid hM2
  clear hM2
  go_enter Tryz.func3, Tryz.ntmps3
  go_wp2_with fail
  with_reducible refine HMk.out.mono ?_
  rintro e w1 ⟨l, B, k, d, rs, s, C, m, ce, ls, hsy, hk, hw, hco, hm, hm24, rfl, hO, hO2, b1⟩
  have hin := sys_in hsy
  have hkb : k ≤ 1048576 := by omega
  have hro := sys_rules hsy
  have hzs := sys_sizes hro
  have hs16 := (wordOk_out hw).2.2.1
  have hsb : s.size ≤ 1048576 := by omega
  have hmb : m ≤ 1048576 := by omega
  have hrd := Rd.of_own hO
  have hrc := Rd.of_own hO2
  clear hO hO2 HMk hin
  obtain ⟨ec, hch, -⟩ := co_chn hro hco
  obtain ⟨V, hV⟩ : ∃ V, V = coL l rs s ls := ⟨_, rfl⟩
  have hT : V.length = m + 1 := by rw [hV, hch.len, hm]
  rw [← hV] at hch
  obtain ⟨-, v2⟩ := hch.word hro hw
  have hVw : ∀ v ∈ V, takesOk l rs v = true ∧ v.size ≤ 1048576 := fun v hv => ⟨takes_mk hsy (v2 v hv), by have := (wordOk_out (v2 v hv)).2.2.1; omega⟩
  have ft1 : takesOk l rs s = true := takes_mk hsy hw
  have htop := fun (h : isCompl l rs = true) => top_chain h hch hw
  clear v2 hch hs16
  have Hk := Lib.hid hk
  clear hk
  have Hzs := Lib.hid hzs
  clear hzs
  have Hro := Lib.hid hro
  clear hro
  have Hrd := Lib.hid hrd
  clear hrd
  have Hrc := Lib.hid hrc
  clear hrc
  have B1 := Lib.hid b1
  clear b1
  have Hsy := Lib.hid hsy
  clear hsy
  have Hw := Lib.hid hw
  clear hw
  have Hco := Lib.hid hco
  clear hco
  have Hm := Lib.hid hm
  clear hm
  have HV := Lib.hid hV
  clear hV
  have HT := Lib.hid hT
  clear hT
  have HVw := Lib.hid hVw
  clear hVw
  have Ft1 := Lib.hid ft1
  clear ft1
  have Htop := Lib.hid htop
  clear htop
  have bb := (Below.refl w1.heap.size w1).alloc (Nat.le_refl _) (.cells #[.int .i64 l, .slice B k d] 25)
  have hNB := Bk.new w1 25 #[.int .i64 l, .slice B k d]
  go_wp2_with fail
  obtain ⟨b_s, hbn⟩ : ∃ z, z = w1.heap.size := ⟨_, rfl⟩
  obtain ⟨w2, hwn⟩ : ∃ z, z = w1.alloc (.cells #[.int .i64 l, .slice B k d] 25) := ⟨_, rfl⟩
  rw [← hwn] at bb
  rw [← hbn, ← hwn] at hNB
  rw [← hwn]
  try rw [← hbn]
  have HR_s_2 := Lib.hid (Hrd.out.keep bb)
  clear Hrd
  have HR_C_2 := Lib.hid (Hrc.out.keep bb)
  clear Hrc
  have HL_2 := Lib.hid (B1.out.trans (bb.mono B1.out.size))
  clear B1
  have HB_s_2 := Lib.hid hNB
  clear hNB bb
  have Hbn_s := Lib.hid hbn
  clear hbn hwn
  have c_s_0 : w2.cell? ⟨b_s, 0, none⟩ = some (.int .i64 l) := by rw [HB_s_2.out.cell]; rfl
  have c_s_1 : w2.cell? ⟨b_s, 1, none⟩ = some (.slice B k d) := by rw [HB_s_2.out.cell]; rfl
  have l_s := HB_s_2.out.lt
  (try go_wp2_with fail)
  with_reducible refine (implChainOf_any l B k d rs s C m ce ls _ HR_s_2.out Hk.out hkb Hzs.out hsb HR_C_2.out Hm.out hmb).mono ?_
  rintro e w3 ⟨D, dd, rfl, hOV, bb⟩
  clear c_s_0 c_s_1 l_s
  have HB_s_3 := Lib.hid (HB_s_2.out.below bb HB_s_2.out.lt)
  clear HB_s_2
  have HR_s_3 := Lib.hid (HR_s_2.out.keep bb)
  clear HR_s_2
  have HR_C_3 := Lib.hid (HR_C_2.out.keep bb)
  clear HR_C_2
  have HL_3 := Lib.hid (HL_2.out.trans (bb.mono HL_2.out.size))
  clear HL_2
  clear bb
  have c_s_0 : w3.cell? ⟨b_s, 0, none⟩ = some (.int .i64 l) := by rw [HB_s_3.out.cell]; rfl
  have c_s_1 : w3.cell? ⟨b_s, 1, none⟩ = some (.slice B k d) := by rw [HB_s_3.out.cell]; rfl
  have l_s := HB_s_3.out.lt
  rw [← HV.out, HT.out] at hOV
  rw [← HV.out, HT.out, Hco.out]
  have hRV := Rd.of_own hOV
  obtain ⟨bl, off, rfl⟩ := rd_some hRV (by rw [strs_len, HT.out]; omega)
  have hcap : m + 1 ≤ dd := (own_cap hOV).1
  clear hOV
  have HRV := Lib.hid hRV
  clear hRV
  (try go_wp2_with fail)
  with_reducible refine (implIsComplete_any l B k d rs _ HR_s_3.out Hk.out hkb Hzs.out).mono ?_
  rintro e w4 ⟨rfl, bb⟩
  clear c_s_0 c_s_1 l_s
  have HB_s_4 := Lib.hid (HB_s_3.out.below bb HB_s_3.out.lt)
  clear HB_s_3
  have HR_s_4 := Lib.hid (HR_s_3.out.keep bb)
  clear HR_s_3
  have HR_C_4 := Lib.hid (HR_C_3.out.keep bb)
  clear HR_C_3
  have HR_V_4 := Lib.hid (HRV.out.keep bb)
  clear HRV
  have HL_4 := Lib.hid (HL_3.out.trans (bb.mono HL_3.out.size))
  clear HL_3
  clear bb
  have c_s_0 : w4.cell? ⟨b_s, 0, none⟩ = some (.int .i64 l) := by rw [HB_s_4.out.cell]; rfl
  have c_s_1 : w4.cell? ⟨b_s, 1, none⟩ = some (.slice B k d) := by rw [HB_s_4.out.cell]; rfl
  have l_s := HB_s_4.out.lt
  obtain ⟨ic, hrr⟩ : ∃ r', r' = isCompl l rs := ⟨_, rfl⟩
  rw [← hrr]
  have Hic := Lib.hid hrr
  clear hrr
  cases ic
  · skip
    (try go_wp2_with fail)
    with_reducible refine (HMc.out _ HL_4.out).mono ?_
    rintro e w5 ⟨l2, B2, k2, d2, rs2, hc2, hk2, rfl, hR2, bb⟩
    clear c_s_0 c_s_1 l_s
    have HB_s_5 := Lib.hid (HB_s_4.out.below bb HB_s_4.out.lt)
    clear HB_s_4
    have HR_s_5 := Lib.hid (HR_s_4.out.keep bb)
    clear HR_s_4
    have HR_C_5 := Lib.hid (HR_C_4.out.keep bb)
    clear HR_C_4
    have HR_V_5 := Lib.hid (HR_V_4.out.keep bb)
    clear HR_V_4
    have HL_5 := Lib.hid (HL_4.out.trans (bb.mono HL_4.out.size))
    clear HL_4
    clear bb
    have c_s_0 : w5.cell? ⟨b_s, 0, none⟩ = some (.int .i64 l) := by rw [HB_s_5.out.cell]; rfl
    have c_s_1 : w5.cell? ⟨b_s, 1, none⟩ = some (.slice B k d) := by rw [HB_s_5.out.cell]; rfl
    have l_s := HB_s_5.out.lt
    have hsy2 := (compl_out hc2).1
    have hin2 := sys_in hsy2
    obtain ⟨L, rfl⟩ : ∃ L : Nat, l2 = (L : Int) := ⟨l2.toNat, by omega⟩
    have hL1 : 1 ≤ L := by omega
    have hL4 : L ≤ 4 := by omega
    have hkb2 : k2 ≤ 1048576 := by omega
    have hzs2 := sys_sizes (sys_rules hsy2)
    have Hc2 := Lib.hid hc2
    clear hc2
    have Hk2 := Lib.hid hk2
    clear hk2
    have HR2 := Lib.hid hR2
    clear hR2
    have Hzs2 := Lib.hid hzs2
    clear hzs2
    clear hsy2 hin2
    clear c_s_0 c_s_1 l_s
    clear HB_s_5
    clear HR_s_5
    clear HR_C_5
    clear HR_V_5
    have bb := (Below.refl w5.heap.size w5).alloc (Nat.le_refl _) (.cells #[.int .i64 (L : Int), .slice B2 k2 d2] 25)
    have hNB := Bk.new w5 25 #[.int .i64 (L : Int), .slice B2 k2 d2]
    go_wp2_with fail
    obtain ⟨b_t, hbn⟩ : ∃ z, z = w5.heap.size := ⟨_, rfl⟩
    obtain ⟨w6, hwn⟩ : ∃ z, z = w5.alloc (.cells #[.int .i64 (L : Int), .slice B2 k2 d2] 25) := ⟨_, rfl⟩
    rw [← hwn] at bb
    rw [← hbn, ← hwn] at hNB
    rw [← hwn]
    try rw [← hbn]
    have HR_t_6 := Lib.hid (HR2.out.keep bb)
    clear HR2
    have HL_6 := Lib.hid (HL_5.out.trans (bb.mono HL_5.out.size))
    clear HL_5
    have HB_t_6 := Lib.hid hNB
    clear hNB bb
    have Hbn_t := Lib.hid hbn
    clear hbn hwn
    have c_t_0 : w6.cell? ⟨b_t, 0, none⟩ = some (.int .i64 (L : Int)) := by rw [HB_t_6.out.cell]; rfl
    have c_t_1 : w6.cell? ⟨b_t, 1, none⟩ = some (.slice B2 k2 d2) := by rw [HB_t_6.out.cell]; rfl
    have l_t := HB_t_6.out.lt
    (try go_wp2_with fail)
    with_reducible refine (HM1.out _ L HL_6.out hL1 hL4).mono ?_
    rintro e w7 ⟨u, hu6, huL, rfl, bb⟩
    clear c_t_0 c_t_1 l_t
    have HB_t_7 := Lib.hid (HB_t_6.out.below bb HB_t_6.out.lt)
    clear HB_t_6
    have HR_t_7 := Lib.hid (HR_t_6.out.keep bb)
    clear HR_t_6
    have HL_7 := Lib.hid (HL_6.out.trans (bb.mono HL_6.out.size))
    clear HL_6
    clear bb
    have c_t_0 : w7.cell? ⟨b_t, 0, none⟩ = some (.int .i64 (L : Int)) := by rw [HB_t_7.out.cell]; rfl
    have c_t_1 : w7.cell? ⟨b_t, 1, none⟩ = some (.slice B2 k2 d2) := by rw [HB_t_7.out.cell]; rfl
    have l_t := HB_t_7.out.lt
    (try go_wp2_with fail)
    with_reducible refine (HM2.out _ L HL_7.out hL1 hL4).mono ?_
    rintro e w8 ⟨v, hv6, hvL, rfl, bb⟩
    clear c_t_0 c_t_1 l_t
    have HB_t_8 := Lib.hid (HB_t_7.out.below bb HB_t_7.out.lt)
    clear HB_t_7
    have HR_t_8 := Lib.hid (HR_t_7.out.keep bb)
    clear HR_t_7
    have HL_8 := Lib.hid (HL_7.out.trans (bb.mono HL_7.out.size))
    clear HL_7
    clear bb
    have c_t_0 : w8.cell? ⟨b_t, 0, none⟩ = some (.int .i64 (L : Int)) := by rw [HB_t_8.out.cell]; rfl
    have c_t_1 : w8.cell? ⟨b_t, 1, none⟩ = some (.slice B2 k2 d2) := by rw [HB_t_8.out.cell]; rfl
    have l_t := HB_t_8.out.lt
    obtain ⟨t1, t2, ha6, hb6, t3, t4, e1, e2⟩ := top_parts Hc2.out huL hvL hu6 hv6
    obtain ⟨a, ha⟩ : ∃ z, z = nfS (L : Int) rs2 u := ⟨_, rfl⟩
    obtain ⟨b, hb9⟩ : ∃ z, z = nfS (L : Int) rs2 v := ⟨_, rfl⟩
    obtain ⟨c, hc⟩ : ∃ z, z = nfS (L : Int) rs2 (u ++ v) := ⟨_, rfl⟩
    rw [← ha] at ha6
    rw [← hb9] at hb6
    rw [← ha, ← hb9] at t4
    rw [← ha, ← hb9, ← hc] at e1
    rw [← hc] at e2
    have hub : u.size ≤ 1048576 := by omega
    have hvb : v.size ≤ 1048576 := by omega
    have huv : (u ++ v).size ≤ 1048576 := by rw [ByteArray.size_append]; omega
    have hab : (a ++ b).size ≤ 1048576 := by rw [ByteArray.size_append]; omega
    have g1 : ¬ (9223372036854775807 < u.size + v.size) := by omega
    have g2 : ¬ (9223372036854775807 < a.size + b.size) := by omega
    have HuL := Lib.hid huL
    clear huL
    have HvL := Lib.hid hvL
    clear hvL
    have T1 := Lib.hid t1
    clear t1
    have T2 := Lib.hid t2
    clear t2
    have T3 := Lib.hid t3
    clear t3
    have T4 := Lib.hid t4
    clear t4
    have E1 := Lib.hid e1
    clear e1
    have E2 := Lib.hid e2
    clear e2
    have Ha := Lib.hid ha
    clear ha
    have Hb9 := Lib.hid hb9
    clear hb9
    have Hc := Lib.hid hc
    clear hc
    have Huv := Lib.hid huv
    clear huv
    have Hab := Lib.hid hab
    clear hab
    (try go_wp2_with fail)
    with_reducible refine (implNormalForm_any (L : Int) B2 k2 d2 rs2 u _ HR_t_8.out Hk2.out hkb2 Hzs2.out hub).mono ?_
    rintro e w9 ⟨rfl, bb⟩
    clear c_t_0 c_t_1 l_t
    have HB_t_9 := Lib.hid (HB_t_8.out.below bb HB_t_8.out.lt)
    clear HB_t_8
    have HR_t_9 := Lib.hid (HR_t_8.out.keep bb)
    clear HR_t_8
    have HL_9 := Lib.hid (HL_8.out.trans (bb.mono HL_8.out.size))
    clear HL_8
    clear bb
    have c_t_0 : w9.cell? ⟨b_t, 0, none⟩ = some (.int .i64 (L : Int)) := by rw [HB_t_9.out.cell]; rfl
    have c_t_1 : w9.cell? ⟨b_t, 1, none⟩ = some (.slice B2 k2 d2) := by rw [HB_t_9.out.cell]; rfl
    have l_t := HB_t_9.out.lt
    rw [← Ha.out, T1.out]
    (try go_wp2_with fail)
    with_reducible refine (implNormalForm_any (L : Int) B2 k2 d2 rs2 v _ HR_t_9.out Hk2.out hkb2 Hzs2.out hvb).mono ?_
    rintro e w10 ⟨rfl, bb⟩
    clear c_t_0 c_t_1 l_t
    have HB_t_10 := Lib.hid (HB_t_9.out.below bb HB_t_9.out.lt)
    clear HB_t_9
    have HR_t_10 := Lib.hid (HR_t_9.out.keep bb)
    clear HR_t_9
    have HL_10 := Lib.hid (HL_9.out.trans (bb.mono HL_9.out.size))
    clear HL_9
    clear bb
    have c_t_0 : w10.cell? ⟨b_t, 0, none⟩ = some (.int .i64 (L : Int)) := by rw [HB_t_10.out.cell]; rfl
    have c_t_1 : w10.cell? ⟨b_t, 1, none⟩ = some (.slice B2 k2 d2) := by rw [HB_t_10.out.cell]; rfl
    have l_t := HB_t_10.out.lt
    rw [← Hb9.out, T2.out]
    (try go_wp2_with fail)
    with_reducible refine (implNormalForm_any (L : Int) B2 k2 d2 rs2 (u ++ v) _ HR_t_10.out Hk2.out hkb2 Hzs2.out Huv.out).mono ?_
    rintro e w11 ⟨rfl, bb⟩
    clear c_t_0 c_t_1 l_t
    have HB_t_11 := Lib.hid (HB_t_10.out.below bb HB_t_10.out.lt)
    clear HB_t_10
    have HR_t_11 := Lib.hid (HR_t_10.out.keep bb)
    clear HR_t_10
    have HL_11 := Lib.hid (HL_10.out.trans (bb.mono HL_10.out.size))
    clear HL_10
    clear bb
    have c_t_0 : w11.cell? ⟨b_t, 0, none⟩ = some (.int .i64 (L : Int)) := by rw [HB_t_11.out.cell]; rfl
    have c_t_1 : w11.cell? ⟨b_t, 1, none⟩ = some (.slice B2 k2 d2) := by rw [HB_t_11.out.cell]; rfl
    have l_t := HB_t_11.out.lt
    rw [← Hc.out, T3.out]
    (try go_wp2_with fail)
    with_reducible refine (implNormalForm_any (L : Int) B2 k2 d2 rs2 (a ++ b) _ HR_t_11.out Hk2.out hkb2 Hzs2.out Hab.out).mono ?_
    rintro e w12 ⟨rfl, bb⟩
    clear c_t_0 c_t_1 l_t
    have HB_t_12 := Lib.hid (HB_t_11.out.below bb HB_t_11.out.lt)
    clear HB_t_11
    have HR_t_12 := Lib.hid (HR_t_11.out.keep bb)
    clear HR_t_11
    have HL_12 := Lib.hid (HL_11.out.trans (bb.mono HL_11.out.size))
    clear HL_11
    clear bb
    have c_t_0 : w12.cell? ⟨b_t, 0, none⟩ = some (.int .i64 (L : Int)) := by rw [HB_t_12.out.cell]; rfl
    have c_t_1 : w12.cell? ⟨b_t, 1, none⟩ = some (.slice B2 k2 d2) := by rw [HB_t_12.out.cell]; rfl
    have l_t := HB_t_12.out.lt
    rw [E1.out, T4.out]
    (try go_wp2_with fail)
    with_reducible refine (implFarForm_any (L : Int) B2 k2 d2 rs2 (u ++ v) _ HR_t_12.out Hk2.out hkb2 Hzs2.out Huv.out).mono ?_
    rintro e w13 ⟨rfl, bb⟩
    clear c_t_0 c_t_1 l_t
    have HB_t_13 := Lib.hid (HB_t_12.out.below bb HB_t_12.out.lt)
    clear HB_t_12
    have HR_t_13 := Lib.hid (HR_t_12.out.keep bb)
    clear HR_t_12
    have HL_13 := Lib.hid (HL_12.out.trans (bb.mono HL_12.out.size))
    clear HL_12
    clear bb
    have c_t_0 : w13.cell? ⟨b_t, 0, none⟩ = some (.int .i64 (L : Int)) := by rw [HB_t_13.out.cell]; rfl
    have c_t_1 : w13.cell? ⟨b_t, 1, none⟩ = some (.slice B2 k2 d2) := by rw [HB_t_13.out.cell]; rfl
    have l_t := HB_t_13.out.lt
    rw [E2.out, T3.out]
    (try go_wp2_with fail)
    with_reducible refine (implIsComplete_any (L : Int) B2 k2 d2 rs2 _ HR_t_13.out Hk2.out hkb2 Hzs2.out).mono ?_
    rintro e w14 ⟨rfl, bb⟩
    clear c_t_0 c_t_1 l_t
    have HB_t_14 := Lib.hid (HB_t_13.out.below bb HB_t_13.out.lt)
    clear HB_t_13
    have HR_t_14 := Lib.hid (HR_t_13.out.keep bb)
    clear HR_t_13
    have HL_14 := Lib.hid (HL_13.out.trans (bb.mono HL_13.out.size))
    clear HL_13
    clear bb
    have c_t_0 : w14.cell? ⟨b_t, 0, none⟩ = some (.int .i64 (L : Int)) := by rw [HB_t_14.out.cell]; rfl
    have c_t_1 : w14.cell? ⟨b_t, 1, none⟩ = some (.slice B2 k2 d2) := by rw [HB_t_14.out.cell]; rfl
    have l_t := HB_t_14.out.lt
    rw [Hc2.out]
    go_wp2_with fail
    go_ret
    exact ⟨rfl, HL_14.out⟩
  · skip
    have htp := Htop.out Hic.out.symm
    obtain ⟨x, hx⟩ : ∃ z, z = nfS l rs s := ⟨_, rfl⟩
    have hVx : ∀ (i : Nat) (hi : i < V.length), nfS l rs V[i] = x := fun i hi => by rw [hx, nfS, if_pos (HVw.out _ (List.getElem_mem hi)).1, nfS, if_pos Ft1.out]; exact htp i hi
    clear htp Htop
    have Hx := Lib.hid hx
    clear hx
    have HVx := Lib.hid hVx
    clear hVx
    (try go_wp2_with fail)
    with_reducible refine (implNormalForm_any l B k d rs s _ HR_s_4.out Hk.out hkb Hzs.out hsb).mono ?_
    rintro e w5 ⟨rfl, bb⟩
    clear c_s_0 c_s_1 l_s
    have HB_s_5 := Lib.hid (HB_s_4.out.below bb HB_s_4.out.lt)
    clear HB_s_4
    have HR_s_5 := Lib.hid (HR_s_4.out.keep bb)
    clear HR_s_4
    have HR_C_5 := Lib.hid (HR_C_4.out.keep bb)
    clear HR_C_4
    have HR_V_5 := Lib.hid (HR_V_4.out.keep bb)
    clear HR_V_4
    have HL_5 := Lib.hid (HL_4.out.trans (bb.mono HL_4.out.size))
    clear HL_4
    clear bb
    have c_s_0 : w5.cell? ⟨b_s, 0, none⟩ = some (.int .i64 l) := by rw [HB_s_5.out.cell]; rfl
    have c_s_1 : w5.cell? ⟨b_s, 1, none⟩ = some (.slice B k d) := by rw [HB_s_5.out.cell]; rfl
    have l_s := HB_s_5.out.lt
    rw [← Hx.out, Ft1.out]
    go_wp2_with fail
    go_loopw [63] (fun i wr => ∃ q : Nat, i = .int .i64 q ∧ q ≤ m + 1 ∧ Hid (Bk wr b_s 25 #[.int .i64 l, .slice B k d]) ∧ Hid (Rd wr (some ⟨bl, off, none⟩) (strs V)) ∧ Hid (Rd wr B (cellsRule rs)) ∧ Hid (Rd wr C (cellsLink ls)) ∧ Hid (Below w.heap.size w wr)) (fun i _ => m + 1 - (intOf i).toNat)
    case atStart => exact ⟨0, rfl, Nat.zero_le _, HB_s_5, HR_V_5, HR_s_5, HR_C_5, HL_5⟩
    clear c_s_0 c_s_1 l_s
    case round =>
      clear HB_s_5 HR_V_5 HR_s_5 HR_C_5 HL_5
      obtain ⟨q, rfl, hq, HBs, HRV, HRs, HRC, HLw⟩ := hrel
      have c_s_0 : wr.cell? ⟨b_s, 0, none⟩ = some (.int .i64 l) := by rw [HBs.out.cell]; rfl
      have c_s_1 : wr.cell? ⟨b_s, 1, none⟩ = some (.slice B k d) := by rw [HBs.out.cell]; rfl
      have l_s := HBs.out.lt
      by_cases hlt : q < m + 1
      · skip
        have hqV : q < V.length := by rw [HT.out]; exact hlt
        have hyx := HVx.out q hqV
        obtain ⟨hyt, hyb⟩ := HVw.out V[q] (List.getElem_mem hqV)
        obtain ⟨y, hy⟩ : ∃ z, z = V[q] := ⟨_, rfl⟩
        have hcx := rd_get HRV.out (strs_at hqV)
        rw [← hy] at hcx hyx hyt hyb
        have hq1 : (q : Int) < (m : Int) + 1 := by omega
        clear hy hqV
        have Hyx := Lib.hid hyx
        clear hyx
        have Hyt := Lib.hid hyt
        clear hyt
        (try go_wp2_with fail)
        with_reducible refine (implNormalForm_any l B k d rs y _ HRs.out Hk.out hkb Hzs.out hyb).mono ?_
        rintro e w6 ⟨rfl, bb⟩
        clear c_s_0 c_s_1 l_s hcx
        have HB_s_6 := Lib.hid (HBs.out.below bb HBs.out.lt)
        clear HBs
        have HR_s_6 := Lib.hid (HRs.out.keep bb)
        clear HRs
        have HR_C_6 := Lib.hid (HRC.out.keep bb)
        clear HRC
        have HR_V_6 := Lib.hid (HRV.out.keep bb)
        clear HRV
        have HL_6 := Lib.hid (HLw.out.trans (bb.mono HLw.out.size))
        clear HLw
        clear bb
        have c_s_0 : w6.cell? ⟨b_s, 0, none⟩ = some (.int .i64 l) := by rw [HB_s_6.out.cell]; rfl
        have c_s_1 : w6.cell? ⟨b_s, 1, none⟩ = some (.slice B k d) := by rw [HB_s_6.out.cell]; rfl
        have l_s := HB_s_6.out.lt
        rw [Hyx.out, Hyt.out]
        go_wp2_with fail
        go_roundw
        case rel => exact ⟨q + 1, by go_num, by omega, HB_s_6, HR_V_6, HR_s_6, HR_C_6, HL_6⟩
        case measure => simp [intOf] <;> omega
      · skip
        (try go_wp2_with fail)
        with_reducible refine (HMc.out _ HLw.out).mono ?_
        rintro e w6 ⟨l2, B2, k2, d2, rs2, hc2, hk2, rfl, hR2, bb⟩
        clear c_s_0 c_s_1 l_s
        have HB_s_6 := Lib.hid (HBs.out.below bb HBs.out.lt)
        clear HBs
        have HR_s_6 := Lib.hid (HRs.out.keep bb)
        clear HRs
        have HR_C_6 := Lib.hid (HRC.out.keep bb)
        clear HRC
        have HR_V_6 := Lib.hid (HRV.out.keep bb)
        clear HRV
        have HL_6 := Lib.hid (HLw.out.trans (bb.mono HLw.out.size))
        clear HLw
        clear bb
        have c_s_0 : w6.cell? ⟨b_s, 0, none⟩ = some (.int .i64 l) := by rw [HB_s_6.out.cell]; rfl
        have c_s_1 : w6.cell? ⟨b_s, 1, none⟩ = some (.slice B k d) := by rw [HB_s_6.out.cell]; rfl
        have l_s := HB_s_6.out.lt
        have hsy2 := (compl_out hc2).1
        have hin2 := sys_in hsy2
        obtain ⟨L, rfl⟩ : ∃ L : Nat, l2 = (L : Int) := ⟨l2.toNat, by omega⟩
        have hL1 : 1 ≤ L := by omega
        have hL4 : L ≤ 4 := by omega
        have hkb2 : k2 ≤ 1048576 := by omega
        have hzs2 := sys_sizes (sys_rules hsy2)
        have Hc2 := Lib.hid hc2
        clear hc2
        have Hk2 := Lib.hid hk2
        clear hk2
        have HR2 := Lib.hid hR2
        clear hR2
        have Hzs2 := Lib.hid hzs2
        clear hzs2
        clear hsy2 hin2
        clear c_s_0 c_s_1 l_s
        clear HB_s_6
        clear HR_s_6
        clear HR_C_6
        clear HR_V_6
        have bb := (Below.refl w6.heap.size w6).alloc (Nat.le_refl _) (.cells #[.int .i64 (L : Int), .slice B2 k2 d2] 25)
        have hNB := Bk.new w6 25 #[.int .i64 (L : Int), .slice B2 k2 d2]
        go_wp2_with fail
        obtain ⟨b_t, hbn⟩ : ∃ z, z = w6.heap.size := ⟨_, rfl⟩
        obtain ⟨w7, hwn⟩ : ∃ z, z = w6.alloc (.cells #[.int .i64 (L : Int), .slice B2 k2 d2] 25) := ⟨_, rfl⟩
        rw [← hwn] at bb
        rw [← hbn, ← hwn] at hNB
        rw [← hwn]
        try rw [← hbn]
        have HR_t_7 := Lib.hid (HR2.out.keep bb)
        clear HR2
        have HL_7 := Lib.hid (HL_6.out.trans (bb.mono HL_6.out.size))
        clear HL_6
        have HB_t_7 := Lib.hid hNB
        clear hNB bb
        have Hbn_t := Lib.hid hbn
        clear hbn hwn
        have c_t_0 : w7.cell? ⟨b_t, 0, none⟩ = some (.int .i64 (L : Int)) := by rw [HB_t_7.out.cell]; rfl
        have c_t_1 : w7.cell? ⟨b_t, 1, none⟩ = some (.slice B2 k2 d2) := by rw [HB_t_7.out.cell]; rfl
        have l_t := HB_t_7.out.lt
        (try go_wp2_with fail)
        with_reducible refine (HM1.out _ L HL_7.out hL1 hL4).mono ?_
        rintro e w8 ⟨u, hu6, huL, rfl, bb⟩
        clear c_t_0 c_t_1 l_t
        have HB_t_8 := Lib.hid (HB_t_7.out.below bb HB_t_7.out.lt)
        clear HB_t_7
        have HR_t_8 := Lib.hid (HR_t_7.out.keep bb)
        clear HR_t_7
        have HL_8 := Lib.hid (HL_7.out.trans (bb.mono HL_7.out.size))
        clear HL_7
        clear bb
        have c_t_0 : w8.cell? ⟨b_t, 0, none⟩ = some (.int .i64 (L : Int)) := by rw [HB_t_8.out.cell]; rfl
        have c_t_1 : w8.cell? ⟨b_t, 1, none⟩ = some (.slice B2 k2 d2) := by rw [HB_t_8.out.cell]; rfl
        have l_t := HB_t_8.out.lt
        (try go_wp2_with fail)
        with_reducible refine (HM2.out _ L HL_8.out hL1 hL4).mono ?_
        rintro e w9 ⟨v, hv6, hvL, rfl, bb⟩
        clear c_t_0 c_t_1 l_t
        have HB_t_9 := Lib.hid (HB_t_8.out.below bb HB_t_8.out.lt)
        clear HB_t_8
        have HR_t_9 := Lib.hid (HR_t_8.out.keep bb)
        clear HR_t_8
        have HL_9 := Lib.hid (HL_8.out.trans (bb.mono HL_8.out.size))
        clear HL_8
        clear bb
        have c_t_0 : w9.cell? ⟨b_t, 0, none⟩ = some (.int .i64 (L : Int)) := by rw [HB_t_9.out.cell]; rfl
        have c_t_1 : w9.cell? ⟨b_t, 1, none⟩ = some (.slice B2 k2 d2) := by rw [HB_t_9.out.cell]; rfl
        have l_t := HB_t_9.out.lt
        obtain ⟨t1, t2, ha6, hb6, t3, t4, e1, e2⟩ := top_parts Hc2.out huL hvL hu6 hv6
        obtain ⟨a, ha⟩ : ∃ z, z = nfS (L : Int) rs2 u := ⟨_, rfl⟩
        obtain ⟨b, hb9⟩ : ∃ z, z = nfS (L : Int) rs2 v := ⟨_, rfl⟩
        obtain ⟨c, hc⟩ : ∃ z, z = nfS (L : Int) rs2 (u ++ v) := ⟨_, rfl⟩
        rw [← ha] at ha6
        rw [← hb9] at hb6
        rw [← ha, ← hb9] at t4
        rw [← ha, ← hb9, ← hc] at e1
        rw [← hc] at e2
        have hub : u.size ≤ 1048576 := by omega
        have hvb : v.size ≤ 1048576 := by omega
        have huv : (u ++ v).size ≤ 1048576 := by rw [ByteArray.size_append]; omega
        have hab : (a ++ b).size ≤ 1048576 := by rw [ByteArray.size_append]; omega
        have g1 : ¬ (9223372036854775807 < u.size + v.size) := by omega
        have g2 : ¬ (9223372036854775807 < a.size + b.size) := by omega
        have HuL := Lib.hid huL
        clear huL
        have HvL := Lib.hid hvL
        clear hvL
        have T1 := Lib.hid t1
        clear t1
        have T2 := Lib.hid t2
        clear t2
        have T3 := Lib.hid t3
        clear t3
        have T4 := Lib.hid t4
        clear t4
        have E1 := Lib.hid e1
        clear e1
        have E2 := Lib.hid e2
        clear e2
        have Ha := Lib.hid ha
        clear ha
        have Hb9 := Lib.hid hb9
        clear hb9
        have Hc := Lib.hid hc
        clear hc
        have Huv := Lib.hid huv
        clear huv
        have Hab := Lib.hid hab
        clear hab
        (try go_wp2_with fail)
        with_reducible refine (implNormalForm_any (L : Int) B2 k2 d2 rs2 u _ HR_t_9.out Hk2.out hkb2 Hzs2.out hub).mono ?_
        rintro e w10 ⟨rfl, bb⟩
        clear c_t_0 c_t_1 l_t
        have HB_t_10 := Lib.hid (HB_t_9.out.below bb HB_t_9.out.lt)
        clear HB_t_9
        have HR_t_10 := Lib.hid (HR_t_9.out.keep bb)
        clear HR_t_9
        have HL_10 := Lib.hid (HL_9.out.trans (bb.mono HL_9.out.size))
        clear HL_9
        clear bb
        have c_t_0 : w10.cell? ⟨b_t, 0, none⟩ = some (.int .i64 (L : Int)) := by rw [HB_t_10.out.cell]; rfl
        have c_t_1 : w10.cell? ⟨b_t, 1, none⟩ = some (.slice B2 k2 d2) := by rw [HB_t_10.out.cell]; rfl
        have l_t := HB_t_10.out.lt
        rw [← Ha.out, T1.out]
        (try go_wp2_with fail)
        with_reducible refine (implNormalForm_any (L : Int) B2 k2 d2 rs2 v _ HR_t_10.out Hk2.out hkb2 Hzs2.out hvb).mono ?_
        rintro e w11 ⟨rfl, bb⟩
        clear c_t_0 c_t_1 l_t
        have HB_t_11 := Lib.hid (HB_t_10.out.below bb HB_t_10.out.lt)
        clear HB_t_10
        have HR_t_11 := Lib.hid (HR_t_10.out.keep bb)
        clear HR_t_10
        have HL_11 := Lib.hid (HL_10.out.trans (bb.mono HL_10.out.size))
        clear HL_10
        clear bb
        have c_t_0 : w11.cell? ⟨b_t, 0, none⟩ = some (.int .i64 (L : Int)) := by rw [HB_t_11.out.cell]; rfl
        have c_t_1 : w11.cell? ⟨b_t, 1, none⟩ = some (.slice B2 k2 d2) := by rw [HB_t_11.out.cell]; rfl
        have l_t := HB_t_11.out.lt
        rw [← Hb9.out, T2.out]
        (try go_wp2_with fail)
        with_reducible refine (implNormalForm_any (L : Int) B2 k2 d2 rs2 (u ++ v) _ HR_t_11.out Hk2.out hkb2 Hzs2.out Huv.out).mono ?_
        rintro e w12 ⟨rfl, bb⟩
        clear c_t_0 c_t_1 l_t
        have HB_t_12 := Lib.hid (HB_t_11.out.below bb HB_t_11.out.lt)
        clear HB_t_11
        have HR_t_12 := Lib.hid (HR_t_11.out.keep bb)
        clear HR_t_11
        have HL_12 := Lib.hid (HL_11.out.trans (bb.mono HL_11.out.size))
        clear HL_11
        clear bb
        have c_t_0 : w12.cell? ⟨b_t, 0, none⟩ = some (.int .i64 (L : Int)) := by rw [HB_t_12.out.cell]; rfl
        have c_t_1 : w12.cell? ⟨b_t, 1, none⟩ = some (.slice B2 k2 d2) := by rw [HB_t_12.out.cell]; rfl
        have l_t := HB_t_12.out.lt
        rw [← Hc.out, T3.out]
        (try go_wp2_with fail)
        with_reducible refine (implNormalForm_any (L : Int) B2 k2 d2 rs2 (a ++ b) _ HR_t_12.out Hk2.out hkb2 Hzs2.out Hab.out).mono ?_
        rintro e w13 ⟨rfl, bb⟩
        clear c_t_0 c_t_1 l_t
        have HB_t_13 := Lib.hid (HB_t_12.out.below bb HB_t_12.out.lt)
        clear HB_t_12
        have HR_t_13 := Lib.hid (HR_t_12.out.keep bb)
        clear HR_t_12
        have HL_13 := Lib.hid (HL_12.out.trans (bb.mono HL_12.out.size))
        clear HL_12
        clear bb
        have c_t_0 : w13.cell? ⟨b_t, 0, none⟩ = some (.int .i64 (L : Int)) := by rw [HB_t_13.out.cell]; rfl
        have c_t_1 : w13.cell? ⟨b_t, 1, none⟩ = some (.slice B2 k2 d2) := by rw [HB_t_13.out.cell]; rfl
        have l_t := HB_t_13.out.lt
        rw [E1.out, T4.out]
        (try go_wp2_with fail)
        with_reducible refine (implFarForm_any (L : Int) B2 k2 d2 rs2 (u ++ v) _ HR_t_13.out Hk2.out hkb2 Hzs2.out Huv.out).mono ?_
        rintro e w14 ⟨rfl, bb⟩
        clear c_t_0 c_t_1 l_t
        have HB_t_14 := Lib.hid (HB_t_13.out.below bb HB_t_13.out.lt)
        clear HB_t_13
        have HR_t_14 := Lib.hid (HR_t_13.out.keep bb)
        clear HR_t_13
        have HL_14 := Lib.hid (HL_13.out.trans (bb.mono HL_13.out.size))
        clear HL_13
        clear bb
        have c_t_0 : w14.cell? ⟨b_t, 0, none⟩ = some (.int .i64 (L : Int)) := by rw [HB_t_14.out.cell]; rfl
        have c_t_1 : w14.cell? ⟨b_t, 1, none⟩ = some (.slice B2 k2 d2) := by rw [HB_t_14.out.cell]; rfl
        have l_t := HB_t_14.out.lt
        rw [E2.out, T3.out]
        (try go_wp2_with fail)
        with_reducible refine (implIsComplete_any (L : Int) B2 k2 d2 rs2 _ HR_t_14.out Hk2.out hkb2 Hzs2.out).mono ?_
        rintro e w15 ⟨rfl, bb⟩
        clear c_t_0 c_t_1 l_t
        have HB_t_15 := Lib.hid (HB_t_14.out.below bb HB_t_14.out.lt)
        clear HB_t_14
        have HR_t_15 := Lib.hid (HR_t_14.out.keep bb)
        clear HR_t_14
        have HL_15 := Lib.hid (HL_14.out.trans (bb.mono HL_14.out.size))
        clear HL_14
        clear bb
        have c_t_0 : w15.cell? ⟨b_t, 0, none⟩ = some (.int .i64 (L : Int)) := by rw [HB_t_15.out.cell]; rfl
        have c_t_1 : w15.cell? ⟨b_t, 1, none⟩ = some (.slice B2 k2 d2) := by rw [HB_t_15.out.cell]; rfl
        have l_t := HB_t_15.out.lt
        rw [Hc2.out]
        go_wp2_with fail
        go_ret
        exact ⟨rfl, HL_15.out⟩

set_option maxRecDepth 100000 in
theorem lifted_FnTop (os : Os) (started : os.Started) (H : Type) (enc : TypeId × Value → H) :
    ReturnsInHanded {} Tryz.checked os 3 .any (Rows.fnTopSpec.pre6 enc Tryz.prog Tryz.f3 Rows.fnTopRow.domain false) (Rows.fnTopSpec.post enc Tryz.prog Tryz.f3 false true false false) := by
  refine returnsInHanded_of_change (C := Tryz.checked) own_knob started (by kernel_rfl) Tryz.func3
    (ChangeSpec.witness6 (enc := enc) (C := Tryz.checked) false ⟨#[], #[.slice none 0 0], []⟩ 8 (by kernel_rfl) (by kernel_rfl) (by kernel_rfl) (by kernel_rfl)) ?_
  intro W base args ds gs before hval0 hW _ _
  have hval : ∀ (j : Nat) t v, Tryz.f3.params[j]? = some t → args[j]? = some v → Value.okWide Tryz.prog W .any base t v := hval0
  have hW' := hW
  obtain ⟨p, q, hA0, hV, rfl, hfz, hnd⟩ := hW
  have hA : DataW.TrodAll enc Tryz.prog W 0 (fun _ => true) true Tryz.f3.params.toList args.toList ds p := hA0
  rw [Tryz.params3] at hA hval
  obtain ⟨v0, vs0, d0, ds0, p0, q0, hargs, rfl, rfl, h0, r0⟩ := trodAll_cons hA
  obtain ⟨rfl, rfl, rfl⟩ := trodAll_nil r0
  obtain rfl : args = #[v0] := by cases args; simp_all
  obtain ⟨rfl, rfl⟩ := trodVars_none hV
  have k0 := h0
  have lt0 : ∀ x ∈ p0, x.block < W.heap.size := by obtain ⟨m, hm⟩ := k0; exact DataW.trod_lt m _ _ _ hm
  obtain ⟨a0, len0, cap0, rfl⟩ := okWide_slice Tryz.underlying22 (hval 0 22 v0 rfl rfl)
  obtain ⟨z0, R0⟩ := open_byteS h0
  clear hA0 hval0
  refine (law_FnTop W a0 len0 cap0 z0 R0).mono fun e W' ⟨he, bel⟩ => ?_
  subst he
  exact ⟨_, rfl, _, _, _, [], _, [], hW', trodAll_mk1 (shut_bool Tryz.underlying4 _), (trodAll_cons_mk (Below.trod laid_out (by kernel_rfl) (of_decide_eq_true (by kernel_rfl)) k0 bel lt0) trodAll_mk0), rfl, bel.frame _, fun h => by cases h⟩

theorem FnTop_holds : Rows.FnTopSaid :=
  OpenClaim.holds_of_wide 3 Tryz.f3 rfl rfl rfl rfl rfl rfl rfl ⟨rfl, rfl, rfl, rfl, rfl⟩ rfl rfl rfl rfl rfl (by kernel_rfl) Tryz.func3 (by kernel_rfl)
    (of_decide_eq_true (by kernel_rfl)) (by unfold Func.isWrapper; first | (rw [if_pos (by decide +kernel)]; kernel_rfl) | (rw [if_neg (by decide +kernel)]; exact ⟨rfl, rfl⟩))
    (fun os started H enc _ => lifted_FnTop os started H enc)

end Go.Proofs.YteafeecndghapaaGreat
