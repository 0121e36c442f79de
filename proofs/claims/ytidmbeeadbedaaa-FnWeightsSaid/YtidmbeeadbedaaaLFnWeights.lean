/- For every input the law FnWeights returns true and leaves its argument as it was. No condition. -/
import Derived.Test.YtidmbeeadbedaaaMg15
import Derived.Test.YtidmbeeadbedaaaMkC2
import Derived.Test.YtidmbeeadbedaaaMg23
import Derived.Test.YtidmbeeadbedaaaWapI
import Derived.Test.YtidmbeeadbedaaaKeeps
import Derived.Test.YtidmbeeadbedaaaMg3
namespace Go.Proofs.Ytidmbeeadbedaaa
open Go.ChangeShapes Go.WideShapes Go.ChangeAt Go.RowKit Go.Shelf

set_option maxRecDepth 100000 in
set_option maxHeartbeats 40000000 in
theorem law_FnWeights (w : World) (A0 : Option Addr) (n0 c0 : Nat) (zs : List Int) (R0 : Rd w A0 (u8c zs) ∧ n0 = zs.length ∧ n0 ≤ maxLen ∧ ∀ z ∈ zs, (Lit.int .u8 z).wf = true) :
    Calls Try.prog 7 #[.slice A0 n0 c0] w (Kept w (.bool true)) := by
  obtain ⟨hr, hn, hm0, hwf⟩ := R0
  have hz : ∀ z ∈ zs, 0 ≤ z ∧ z ≤ 255 := fun z h => byte_wf (hwf z h)
  unfold maxLen at hm0
  by_cases hb : n0 ≤ 1048576
  rotate_left
  · have hbi : (1048576 : Int) < (n0 : Int) := by omega
    go_enter Try.func7, Try.ntmps7
    go_wp2_with fail
    go_ret
    exact ⟨rfl, Below.refl _ _⟩
  have hMk : Calls Try.prog 9 #[.slice A0 n0 c0, .int .i64 0] w _ := makeChain_any A0 n0 c0 zs 0 w hr hn hb hz (by omega)
  have hMn : ∀ (W : World), Below w.heap.size w W → Calls Try.prog 21 #[.slice A0 n0 c0, .int .i64 60] W _ := fun W h => makeNum_any A0 n0 c0 zs 60 W (hr.keep h) hn hb hz (by omega)
  have hMv : ∀ (W : World) (L : Nat), Below w.heap.size w W → 1 ≤ L → L ≤ 4 → Calls Try.prog 22 #[.slice A0 n0 c0, .int .i64 80, .int .i64 (L : Int), .int .i64 6] W _ := fun W L h h1 h4 => makeWord_any A0 n0 c0 zs 80 L 6 W (hr.keep h) hn hb hz (by omega) h1 h4 (by omega)
  clear hr hn hz hwf hm0
  have HMk := Lib.hid hMk
  clear hMk
  have HMn := Lib.hid hMn
  clear hMn
  have HMv := Lib.hid hMv
  clear hMv
  go_enter Try.func7, Try.ntmps7
  go_wp2_with fail
  with_reducible refine HMk.out.mono ?_
  rintro e w1 ⟨l, B, k, d, rs, s, C, m, ce, ls, hsy, hk, hw, hco, hm, hm24, rfl, hO, hO2, b1⟩
  have hin := sys_in hsy
  obtain ⟨L, rfl⟩ : ∃ L : Nat, l = (L : Int) := ⟨l.toNat, by omega⟩
  have hL1 : 1 ≤ L := by omega
  have hL4 : L ≤ 4 := by omega
  have hkb : k ≤ 1048576 := by omega
  have hro := sys_rules hsy
  have hzs := sys_sizes hro
  have hsb : s.size ≤ 1048576 := by have := (wordOk_out hw).2.2.1; omega
  have hmb : m ≤ 1048576 := by omega
  have hrd := Rd.of_own hO
  have hrc := Rd.of_own hO2
  clear hO hO2 HMk hin
  have Hk := Lib.hid hk
  clear hk
  have Hzs := Lib.hid hzs
  clear hzs
  have Hro := Lib.hid hro
  clear hro
  have Hrd := Lib.hid hrd
  clear hrd
  have Hrc := Lib.hid hrc
  clear hrc
  have B1 := Lib.hid b1
  clear b1
  have Hsy := Lib.hid hsy
  clear hsy
  have Hw := Lib.hid hw
  clear hw
  have Hco := Lib.hid hco
  clear hco
  have Hm := Lib.hid hm
  clear hm
  have bb := (Below.refl w1.heap.size w1).alloc (Nat.le_refl _) (.cells #[.int .i64 (L : Int), .slice B k d] 25)
  have hNB := Bk.new w1 25 #[.int .i64 (L : Int), .slice B k d]
  go_wp2_with fail
  obtain ⟨b_s, hbn⟩ : ∃ z, z = w1.heap.size := ⟨_, rfl⟩
  obtain ⟨w2, hwn⟩ : ∃ z, z = w1.alloc (.cells #[.int .i64 (L : Int), .slice B k d] 25) := ⟨_, rfl⟩
  rw [← hwn] at bb
  rw [← hbn, ← hwn] at hNB
  rw [← hwn]
  try rw [← hbn]
  have HR_s_2 := Lib.hid (Hrd.out.keep bb)
  clear Hrd
  have HR_C_2 := Lib.hid (Hrc.out.keep bb)
  clear Hrc
  have HL_2 := Lib.hid (B1.out.trans (bb.mono B1.out.size))
  clear B1
  have HB_s_2 := Lib.hid hNB
  clear hNB bb
  have Hbn_s := Lib.hid hbn
  clear hbn hwn
  have c_s_0 : w2.cell? ⟨b_s, 0, none⟩ = some (.int .i64 (L : Int)) := by rw [HB_s_2.out.cell]; rfl
  have c_s_1 : w2.cell? ⟨b_s, 1, none⟩ = some (.slice B k d) := by rw [HB_s_2.out.cell]; rfl
  have l_s := HB_s_2.out.lt
  (try go_wp2_with fail)
  with_reducible refine (HMn.out _ HL_2.out).mono ?_
  rintro e w3 ⟨x1, -, rfl, bb⟩
  clear c_s_0 c_s_1 l_s
  have HB_s_3 := Lib.hid (HB_s_2.out.below bb HB_s_2.out.lt)
  clear HB_s_2
  have HR_s_3 := Lib.hid (HR_s_2.out.keep bb)
  clear HR_s_2
  have HR_C_3 := Lib.hid (HR_C_2.out.keep bb)
  clear HR_C_2
  have HL_3 := Lib.hid (HL_2.out.trans (bb.mono HL_2.out.size))
  clear HL_2
  clear bb
  have c_s_0 : w3.cell? ⟨b_s, 0, none⟩ = some (.int .i64 (L : Int)) := by rw [HB_s_3.out.cell]; rfl
  have c_s_1 : w3.cell? ⟨b_s, 1, none⟩ = some (.slice B k d) := by rw [HB_s_3.out.cell]; rfl
  have l_s := HB_s_3.out.lt
  have hmod : (x1 : Int).tmod 4 = ((x1 % 4 : Nat) : Int) := by rw [Int.tmod_eq_emod_of_nonneg (by omega)]; rfl
  have hq4 : x1 % 4 < 4 := Nat.mod_lt _ (by omega)
  obtain ⟨q, hq⟩ : ∃ z, z = x1 % 4 := ⟨_, rfl⟩
  rw [← hq] at hmod hq4
  obtain ⟨M, hM⟩ : ∃ z, z = 1 + q := ⟨_, rfl⟩
  have hlim : 1 + (q : Int) = (M : Int) := by omega
  have hM1 : 1 ≤ M := by omega
  have hM4 : M ≤ 4 := by omega
  clear hq hM
  obtain ⟨ec, hch, -⟩ := co_chn Hro.out Hco.out
  obtain ⟨V, hV⟩ : ∃ V, V = coL (L : Int) rs s ls := ⟨_, rfl⟩
  rw [← hV] at hch
  obtain ⟨T, hT⟩ : ∃ T, T = V.length := ⟨_, rfl⟩
  have hT1 : T = m + 1 := by rw [hT, hch.len, Hm.out]
  have hVw := (hch.word Hro.out Hw.out).2
  have hcw := @chain_weight rs
  have hcw2 : ∀ (mm : Int) (ws : List Int), keepsAll mm ws rs = true → ∀ v ∈ V, weightV mm ws s = weightV mm ws v := fun mm ws h => chain_weight h hch
  clear hcw hch
  have HV := Lib.hid hV
  clear hV
  have HT := Lib.hid hT
  clear hT
  have HVw := Lib.hid hVw
  clear hVw
  have Hcw2 := Lib.hid hcw2
  clear hcw2
  (try go_wp2_with fail)
  with_reducible refine (implChainOf_any (L : Int) B k d rs s C m ce ls _ HR_s_3.out Hk.out hkb Hzs.out hsb HR_C_3.out Hm.out hmb).mono ?_
  rintro e w4 ⟨D, dd, rfl, hOV, bb⟩
  clear c_s_0 c_s_1 l_s
  have HB_s_4 := Lib.hid (HB_s_3.out.below bb HB_s_3.out.lt)
  clear HB_s_3
  have HR_s_4 := Lib.hid (HR_s_3.out.keep bb)
  clear HR_s_3
  have HR_C_4 := Lib.hid (HR_C_3.out.keep bb)
  clear HR_C_3
  have HL_4 := Lib.hid (HL_3.out.trans (bb.mono HL_3.out.size))
  clear HL_3
  clear bb
  have c_s_0 : w4.cell? ⟨b_s, 0, none⟩ = some (.int .i64 (L : Int)) := by rw [HB_s_4.out.cell]; rfl
  have c_s_1 : w4.cell? ⟨b_s, 1, none⟩ = some (.slice B k d) := by rw [HB_s_4.out.cell]; rfl
  have l_s := HB_s_4.out.lt
  clear hmod hlim hq4
  rw [← HV.out, ← HT.out] at hOV
  rw [← HV.out, ← HT.out, Hco.out]
  have hRV := Rd.of_own hOV
  have hTb : T ≤ 1048576 := by omega
  have hT2 : ((T : Int) == 0) = false := by simp; omega
  obtain ⟨bl, off, rfl⟩ := rd_some hRV (by rw [strs_len, ← HT.out]; omega)
  clear hOV
  have HRV := Lib.hid hRV
  clear hRV
  (try go_wp2_with fail)
  with_reducible refine (implCountWeights_any (L : Int) B k d rs (M : Int) _ HR_s_4.out Hk.out hkb Hzs.out).mono ?_
  rintro e w5 ⟨rfl, bb⟩
  clear c_s_0 c_s_1 l_s
  have HB_s_5 := Lib.hid (HB_s_4.out.below bb HB_s_4.out.lt)
  clear HB_s_4
  have HR_s_5 := Lib.hid (HR_s_4.out.keep bb)
  clear HR_s_4
  have HR_C_5 := Lib.hid (HR_C_4.out.keep bb)
  clear HR_C_4
  have HR_V_5 := Lib.hid (HRV.out.keep bb)
  clear HRV
  have HL_5 := Lib.hid (HL_4.out.trans (bb.mono HL_4.out.size))
  clear HL_4
  clear bb
  have c_s_0 : w5.cell? ⟨b_s, 0, none⟩ = some (.int .i64 (L : Int)) := by rw [HB_s_5.out.cell]; rfl
  have c_s_1 : w5.cell? ⟨b_s, 1, none⟩ = some (.slice B k d) := by rw [HB_s_5.out.cell]; rfl
  have l_s := HB_s_5.out.lt
  obtain ⟨k1, kq, k2⟩ := kept_dvd Hro.out hM1 hM4
  have k3 : cwN (L : Int) rs (M : Int) ≤ 1296 := by
    unfold cwN
    split
    · have := kept_few (l := (L : Int)) (rs := rs) (m := (M : Int)) (by omega) (by omega); omega
    · omega
  obtain ⟨cw, hcw⟩ : ∃ z, z = cwN (L : Int) rs (M : Int) := ⟨_, rfl⟩
  rw [← hcw] at k1 k2 k3
  rw [← hcw]
  clear hcw
  have K2 := Lib.hid k2
  clear k2
  go_wp2_with fail
  go_loopw [10, 11] (fun a i wr => ∃ j v : Nat, a = .int .i64 v ∧ i = .int .i64 j ∧ j ≤ L ∧ Hid (v = M ^ j) ∧ Hid (wr = w5)) (fun _ i _ => L - (intOf i).toNat)
  case atStart => exact ⟨0, 1, rfl, rfl, Nat.zero_le _, rfl, rfl⟩
  case round =>
    obtain ⟨j, v, rfl, rfl, hj, Hv, hwr⟩ := hrel
    have hv4 : v ≤ 4 ^ 4 := by rw [Hv.out]; exact Nat.le_trans (Nat.pow_le_pow_left hM4 j) (Nat.pow_le_pow_right (by omega) (by omega))
    have hvM : v * M ≤ 1024 := by have := Nat.mul_le_mul hv4 hM4; omega
    have hwr2 : w5 = wr := hwr.out.symm
    subst hwr2
    by_cases hlt : j < L
    · skip
      obtain ⟨v2, hv2⟩ : ∃ z, z = v * M := ⟨_, rfl⟩
      have hnx : v2 = M ^ (j + 1) := by rw [hv2, Nat.pow_succ, Hv.out]
      have hvi : (v : Int) * (M : Int) = (v2 : Int) := by rw [hv2, Int.natCast_mul]
      have hwv : IntKind.i64.wrap ((v : Int) * (M : Int)) = (v2 : Int) := by rw [hvi]; exact IntWalk.i64_in _ ⟨by omega, by omega⟩
      clear hv2
      have Hnx := Lib.hid hnx
      clear hnx
      go_wp2_with fail
      go_roundw
      case rel => exact ⟨j + 1, v2, by go_num, by go_num, by omega, Hnx, Lib.hid (by trivial)⟩
      case measure => simp [intOf] <;> omega
    · skip
      have hjL : L = j := by omega
      subst hjL
      have hmz : (v : Int).tmod cw = 0 := by
        have e : (v : Int) = (M : Int) ^ L := by rw [Hv.out, Int.natCast_pow]
        rw [e, K2.out]
        exact Int.mul_tmod_right _ _
      have hc1 : ¬ cw < 1 := by omega
      have hc0 : (cw == 0) = false := by simp; omega
      have hc2 : ¬ cw = 0 := by omega
      go_wp2_with fail
      go_loopw [78] (fun i wr => ∃ q : Nat, i = .int .i64 q ∧ q ≤ T ∧ Hid (Bk wr b_s 25 #[.int .i64 (L : Int), .slice B k d]) ∧ Hid (Rd wr (some ⟨bl, off, none⟩) (strs V)) ∧ Hid (Rd wr B (cellsRule rs)) ∧ Hid (Below w.heap.size w wr)) (fun i _ => T - (intOf i).toNat)
      case atStart => exact ⟨0, rfl, Nat.zero_le _, HB_s_5, HR_V_5, HR_s_5, HL_5⟩
      clear c_s_0 c_s_1 l_s
      clear HR_C_5
      have c_s_0 : w5.cell? ⟨b_s, 0, none⟩ = some (.int .i64 (L : Int)) := by rw [HB_s_5.out.cell]; rfl
      have c_s_1 : w5.cell? ⟨b_s, 1, none⟩ = some (.slice B k d) := by rw [HB_s_5.out.cell]; rfl
      have l_s := HB_s_5.out.lt
      clear c_s_0 c_s_1 l_s
      case round =>
        clear hmz hc1 hc0 hc2 HB_s_5 HR_V_5 HR_s_5 HL_5
        obtain ⟨q, rfl, hq, HBs, HRV, HRs, HLw⟩ := hrel
        have c_s_0 : wr.cell? ⟨b_s, 0, none⟩ = some (.int .i64 (L : Int)) := by rw [HBs.out.cell]; rfl
        have c_s_1 : wr.cell? ⟨b_s, 1, none⟩ = some (.slice B k d) := by rw [HBs.out.cell]; rfl
        have l_s := HBs.out.lt
        by_cases hlt : q < T
        · skip
          have hqV : q < V.length := by rw [← HT.out]; exact hlt
          obtain ⟨x, hx⟩ : ∃ z, z = V[q] := ⟨_, rfl⟩
          have hm_x : x ∈ V := by rw [hx]; exact List.getElem_mem hqV
          have hcx := rd_get HRV.out (strs_at hqV)
          rw [← hx] at hcx
          have hb_x : x.size ≤ 1048576 := by have := (wordOk_out (HVw.out x hm_x)).2.2.1; omega
          obtain ⟨a1, a2⟩ := wa_same (l := (L : Int)) (rs := rs) (m := (M : Int)) (u := s) (v := x) (fun ws h => Hcw2.out _ ws h x hm_x)
          have a3 := la_same (l := (L : Int)) (rs := rs) (u := s) (v := x) (fun mm ws h => Hcw2.out mm ws h x hm_x)
          clear hx hm_x hqV
          have A1 := Lib.hid a1
          clear a1
          have A2 := Lib.hid a2
          clear a2
          have A3 := Lib.hid a3
          clear a3
          (try go_wp2_with fail)
          with_reducible refine (implWeightApart_any (L : Int) B k d rs (M : Int) s x _ HRs.out Hk.out hkb Hzs.out hsb hb_x).mono ?_
          rintro e w6 ⟨E1, e1, rfl, -, bb⟩
          clear c_s_0 c_s_1 l_s hcx
          have HB_s_6 := Lib.hid (HBs.out.below bb HBs.out.lt)
          clear HBs
          have HR_s_6 := Lib.hid (HRs.out.keep bb)
          clear HRs
          have HR_V_6 := Lib.hid (HRV.out.keep bb)
          clear HRV
          have HL_6 := Lib.hid (HLw.out.trans (bb.mono HLw.out.size))
          clear HLw
          clear bb
          have c_s_0 : w6.cell? ⟨b_s, 0, none⟩ = some (.int .i64 (L : Int)) := by rw [HB_s_6.out.cell]; rfl
          have c_s_1 : w6.cell? ⟨b_s, 1, none⟩ = some (.slice B k d) := by rw [HB_s_6.out.cell]; rfl
          have l_s := HB_s_6.out.lt
          rw [A1.out, A2.out, List.length_nil]
          (try go_wp2_with fail)
          with_reducible refine (implLeastApart_any (L : Int) B k d rs s x _ HR_s_6.out Hk.out hkb Hzs.out hsb hb_x).mono ?_
          rintro e w7 ⟨rfl, bb⟩
          clear c_s_0 c_s_1 l_s
          have HB_s_7 := Lib.hid (HB_s_6.out.below bb HB_s_6.out.lt)
          clear HB_s_6
          have HR_s_7 := Lib.hid (HR_s_6.out.keep bb)
          clear HR_s_6
          have HR_V_7 := Lib.hid (HR_V_6.out.keep bb)
          clear HR_V_6
          have HL_7 := Lib.hid (HL_6.out.trans (bb.mono HL_6.out.size))
          clear HL_6
          clear bb
          have c_s_0 : w7.cell? ⟨b_s, 0, none⟩ = some (.int .i64 (L : Int)) := by rw [HB_s_7.out.cell]; rfl
          have c_s_1 : w7.cell? ⟨b_s, 1, none⟩ = some (.slice B k d) := by rw [HB_s_7.out.cell]; rfl
          have l_s := HB_s_7.out.lt
          rw [A3.out]
          go_wp2_with fail
          go_roundw
          case rel => exact ⟨q + 1, by go_num, by omega, HB_s_7, HR_V_7, HR_s_7, HL_7⟩
          case measure => simp [intOf] <;> omega
        · skip
          clear c_s_0 c_s_1 l_s
          clear HRV
          have c_s_0 : wr.cell? ⟨b_s, 0, none⟩ = some (.int .i64 (L : Int)) := by rw [HBs.out.cell]; rfl
          have c_s_1 : wr.cell? ⟨b_s, 1, none⟩ = some (.slice B k d) := by rw [HBs.out.cell]; rfl
          have l_s := HBs.out.lt
          (try go_wp2_with fail)
          with_reducible refine (HMv.out _ L HLw.out hL1 hL4).mono ?_
          rintro e w6 ⟨u, hu6, huL, rfl, bb⟩
          clear c_s_0 c_s_1 l_s
          have HB_s_6 := Lib.hid (HBs.out.below bb HBs.out.lt)
          clear HBs
          have HR_s_6 := Lib.hid (HRs.out.keep bb)
          clear HRs
          have HL_6 := Lib.hid (HLw.out.trans (bb.mono HLw.out.size))
          clear HLw
          clear bb
          have c_s_0 : w6.cell? ⟨b_s, 0, none⟩ = some (.int .i64 (L : Int)) := by rw [HB_s_6.out.cell]; rfl
          have c_s_1 : w6.cell? ⟨b_s, 1, none⟩ = some (.slice B k d) := by rw [HB_s_6.out.cell]; rfl
          have l_s := HB_s_6.out.lt
          have hwu : wordOk (L : Int) u = true := wordOk_mk (by omega) (by omega) (by omega) huL
          have hub : u.size ≤ 1048576 := by omega
          have hap := @apart_facts rs L M s u Hsy.out hM1 hM4 Hw.out hwu
          obtain ⟨a, ha⟩ : ∃ z, z = waL (L : Int) rs (M : Int) s u := ⟨_, rfl⟩
          obtain ⟨ok, hok⟩ : ∃ z, z = waOk (L : Int) rs (M : Int) s u := ⟨_, rfl⟩
          have hal : a.length ≤ 1048576 := by rw [ha]; exact waL_len
          rw [← ha, ← hok] at hap
          clear huL
          have Hwu := Lib.hid hwu
          clear hwu
          have Ha := Lib.hid ha
          clear ha
          have Hok := Lib.hid hok
          clear hok
          have Hap := Lib.hid hap
          clear hap
          (try go_wp2_with fail)
          with_reducible refine (implWeightApart_any (L : Int) B k d rs (M : Int) s u _ HR_s_6.out Hk.out hkb Hzs.out hsb hub).mono ?_
          rintro e w7 ⟨E1, e1, rfl, hOa, bb⟩
          clear c_s_0 c_s_1 l_s
          have HB_s_7 := Lib.hid (HB_s_6.out.below bb HB_s_6.out.lt)
          clear HB_s_6
          have HR_s_7 := Lib.hid (HR_s_6.out.keep bb)
          clear HR_s_6
          have HL_7 := Lib.hid (HL_6.out.trans (bb.mono HL_6.out.size))
          clear HL_6
          clear bb
          have c_s_0 : w7.cell? ⟨b_s, 0, none⟩ = some (.int .i64 (L : Int)) := by rw [HB_s_7.out.cell]; rfl
          have c_s_1 : w7.cell? ⟨b_s, 1, none⟩ = some (.slice B k d) := by rw [HB_s_7.out.cell]; rfl
          have l_s := HB_s_7.out.lt
          rw [← Ha.out] at hOa
          rw [← Ha.out, ← Hok.out]
          obtain ⟨al, hal2⟩ : ∃ z, z = a.length := ⟨_, rfl⟩
          rw [← hal2] at hOa hal
          rw [← hal2]
          have hRa := Rd.of_own hOa
          clear hOa
          have HRa := Lib.hid hRa
          clear hRa
          have Hal2 := Lib.hid hal2
          clear hal2
          cases ok
          · skip
            go_wp2_with fail
            go_ret
            exact ⟨rfl, HL_7.out⟩
          · skip
            obtain ⟨p1, p2, p3, p4, p5, p6, p7, p8⟩ := Hap.out rfl
            obtain ⟨r1, hr1⟩ : ∃ z, z = wRes (M : Int) a s := ⟨_, rfl⟩
            obtain ⟨r2, hr2⟩ : ∃ z, z = wRes (M : Int) a u := ⟨_, rfl⟩
            rw [← hr1, ← hr2] at p3
            have p9 : (r1 == r2) = false := by simp; exact p3
            have p10 : (r1 != r2) = true := by simp; exact p3
            obtain ⟨dw, hdw⟩ : ∃ z, z = addW (M : Int) a a := ⟨_, rfl⟩
            rw [← hdw] at p6
            have hdl : dw.length ≤ 1048576 := by rw [hdw]; exact addW_len _ _ _
            have hM1i : (1 : Int) < (M : Int) := by omega
            clear Hap p3
            have P1 := Lib.hid p1
            clear p1
            have P2 := Lib.hid p2
            clear p2
            have P4 := Lib.hid p4
            clear p4
            have P5 := Lib.hid p5
            clear p5
            have P6 := Lib.hid p6
            clear p6
            have P7 := Lib.hid p7
            clear p7
            have Hr1 := Lib.hid hr1
            clear hr1
            have Hr2 := Lib.hid hr2
            clear hr2
            have Hdw := Lib.hid hdw
            clear hdw
            (try go_wp2_with fail)
            with_reducible refine (implWeightOf_any (M : Int) E1 al e1 a s _ HRa.out Hal2.out hal hsb).mono ?_
            rintro e w8 ⟨rfl, bb⟩
            clear c_s_0 c_s_1 l_s
            have HB_s_8 := Lib.hid (HB_s_7.out.below bb HB_s_7.out.lt)
            clear HB_s_7
            have HR_s_8 := Lib.hid (HR_s_7.out.keep bb)
            clear HR_s_7
            have HR_a_8 := Lib.hid (HRa.out.keep bb)
            clear HRa
            have HL_8 := Lib.hid (HL_7.out.trans (bb.mono HL_7.out.size))
            clear HL_7
            clear bb
            have c_s_0 : w8.cell? ⟨b_s, 0, none⟩ = some (.int .i64 (L : Int)) := by rw [HB_s_8.out.cell]; rfl
            have c_s_1 : w8.cell? ⟨b_s, 1, none⟩ = some (.slice B k d) := by rw [HB_s_8.out.cell]; rfl
            have l_s := HB_s_8.out.lt
            rw [← Hr1.out, P1.out]
            (try go_wp2_with fail)
            with_reducible refine (implWeightOf_any (M : Int) E1 al e1 a u _ HR_a_8.out Hal2.out hal hub).mono ?_
            rintro e w9 ⟨rfl, bb⟩
            clear c_s_0 c_s_1 l_s
            have HB_s_9 := Lib.hid (HB_s_8.out.below bb HB_s_8.out.lt)
            clear HB_s_8
            have HR_s_9 := Lib.hid (HR_s_8.out.keep bb)
            clear HR_s_8
            have HR_a_9 := Lib.hid (HR_a_8.out.keep bb)
            clear HR_a_8
            have HL_9 := Lib.hid (HL_8.out.trans (bb.mono HL_8.out.size))
            clear HL_8
            clear bb
            have c_s_0 : w9.cell? ⟨b_s, 0, none⟩ = some (.int .i64 (L : Int)) := by rw [HB_s_9.out.cell]; rfl
            have c_s_1 : w9.cell? ⟨b_s, 1, none⟩ = some (.slice B k d) := by rw [HB_s_9.out.cell]; rfl
            have l_s := HB_s_9.out.lt
            rw [← Hr2.out, P2.out]
            (try go_wp2_with fail)
            with_reducible refine (implAddWeights_any (M : Int) E1 al e1 a E1 al e1 a _ HR_a_9.out Hal2.out hal HR_a_9.out Hal2.out hal).mono ?_
            rintro e w10 ⟨E2, e2, rfl, hOd, bb⟩
            clear c_s_0 c_s_1 l_s
            have HB_s_10 := Lib.hid (HB_s_9.out.below bb HB_s_9.out.lt)
            clear HB_s_9
            have HR_s_10 := Lib.hid (HR_s_9.out.keep bb)
            clear HR_s_9
            have HR_a_10 := Lib.hid (HR_a_9.out.keep bb)
            clear HR_a_9
            have HL_10 := Lib.hid (HL_9.out.trans (bb.mono HL_9.out.size))
            clear HL_9
            clear bb
            have c_s_0 : w10.cell? ⟨b_s, 0, none⟩ = some (.int .i64 (L : Int)) := by rw [HB_s_10.out.cell]; rfl
            have c_s_1 : w10.cell? ⟨b_s, 1, none⟩ = some (.slice B k d) := by rw [HB_s_10.out.cell]; rfl
            have l_s := HB_s_10.out.lt
            rw [← Hdw.out] at hOd
            rw [← Hdw.out, P4.out]
            obtain ⟨dl, hdl2⟩ : ∃ z, z = dw.length := ⟨_, rfl⟩
            rw [← hdl2] at hOd hdl
            rw [← hdl2]
            have hRd := Rd.of_own hOd
            clear hOd
            have HRd := Lib.hid hRd
            clear hRd
            have Hdl2 := Lib.hid hdl2
            clear hdl2
            (try go_wp2_with fail)
            with_reducible refine (implProofOf_any (L : Int) B k d rs s u _ HR_s_10.out Hk.out hkb Hzs.out hsb hub).mono ?_
            rintro e w11 ⟨E3, e3, rfl, -, bb⟩
            clear c_s_0 c_s_1 l_s
            have HB_s_11 := Lib.hid (HB_s_10.out.below bb HB_s_10.out.lt)
            clear HB_s_10
            have HR_s_11 := Lib.hid (HR_s_10.out.keep bb)
            clear HR_s_10
            have HR_a_11 := Lib.hid (HR_a_10.out.keep bb)
            clear HR_a_10
            have HR_d_11 := Lib.hid (HRd.out.keep bb)
            clear HRd
            have HL_11 := Lib.hid (HL_10.out.trans (bb.mono HL_10.out.size))
            clear HL_10
            clear bb
            have c_s_0 : w11.cell? ⟨b_s, 0, none⟩ = some (.int .i64 (L : Int)) := by rw [HB_s_11.out.cell]; rfl
            have c_s_1 : w11.cell? ⟨b_s, 1, none⟩ = some (.slice B k d) := by rw [HB_s_11.out.cell]; rfl
            have l_s := HB_s_11.out.lt
            rw [P7.out]
            (try go_wp2_with fail)
            with_reducible refine (implKeepsWeight_any (L : Int) B k d rs (M : Int) E1 al e1 a _ HR_s_11.out Hk.out hkb Hzs.out HR_a_11.out Hal2.out hal).mono ?_
            rintro e w12 ⟨rfl, bb⟩
            clear c_s_0 c_s_1 l_s
            have HB_s_12 := Lib.hid (HB_s_11.out.below bb HB_s_11.out.lt)
            clear HB_s_11
            have HR_s_12 := Lib.hid (HR_s_11.out.keep bb)
            clear HR_s_11
            have HR_a_12 := Lib.hid (HR_a_11.out.keep bb)
            clear HR_a_11
            have HR_d_12 := Lib.hid (HR_d_11.out.keep bb)
            clear HR_d_11
            have HL_12 := Lib.hid (HL_11.out.trans (bb.mono HL_11.out.size))
            clear HL_11
            clear bb
            have c_s_0 : w12.cell? ⟨b_s, 0, none⟩ = some (.int .i64 (L : Int)) := by rw [HB_s_12.out.cell]; rfl
            have c_s_1 : w12.cell? ⟨b_s, 1, none⟩ = some (.slice B k d) := by rw [HB_s_12.out.cell]; rfl
            have l_s := HB_s_12.out.lt
            rw [P5.out]
            (try go_wp2_with fail)
            with_reducible refine (implKeepsWeight_any (L : Int) B k d rs (M : Int) E2 dl e2 dw _ HR_s_12.out Hk.out hkb Hzs.out HR_d_12.out Hdl2.out hdl).mono ?_
            rintro e w13 ⟨rfl, bb⟩
            clear c_s_0 c_s_1 l_s
            have HB_s_13 := Lib.hid (HB_s_12.out.below bb HB_s_12.out.lt)
            clear HB_s_12
            have HR_s_13 := Lib.hid (HR_s_12.out.keep bb)
            clear HR_s_12
            have HR_a_13 := Lib.hid (HR_a_12.out.keep bb)
            clear HR_a_12
            have HR_d_13 := Lib.hid (HR_d_12.out.keep bb)
            clear HR_d_12
            have HL_13 := Lib.hid (HL_12.out.trans (bb.mono HL_12.out.size))
            clear HL_12
            clear bb
            have c_s_0 : w13.cell? ⟨b_s, 0, none⟩ = some (.int .i64 (L : Int)) := by rw [HB_s_13.out.cell]; rfl
            have c_s_1 : w13.cell? ⟨b_s, 1, none⟩ = some (.slice B k d) := by rw [HB_s_13.out.cell]; rfl
            have l_s := HB_s_13.out.lt
            rw [P6.out]
            go_wp2_with fail
            go_ret
            exact ⟨rfl, HL_13.out⟩

set_option maxRecDepth 100000 in
theorem lifted_FnWeights (os : Os) (started : os.Started) (H : Type) (enc : TypeId × Value → H) :
    ReturnsInHanded {} Try.checked os 7 .any (Rows.fnWeightsSpec.pre6 enc Try.prog Try.f7 Rows.fnWeightsRow.domain false) (Rows.fnWeightsSpec.post enc Try.prog Try.f7 false true false false) := by
  refine returnsInHanded_of_change (C := Try.checked) own_knob started (by kernel_rfl) Try.func7
    (ChangeSpec.witness6 (enc := enc) (C := Try.checked) false ⟨#[], #[.slice none 0 0], []⟩ 8 (by kernel_rfl) (by kernel_rfl) (by kernel_rfl) (by kernel_rfl)) ?_
  intro W base args ds gs before hval0 hW _ _
  have hval : ∀ (j : Nat) t v, Try.f7.params[j]? = some t → args[j]? = some v → Value.okWide Try.prog W .any base t v := hval0
  have hW' := hW
  obtain ⟨p, q, hA0, hV, rfl, hfz, hnd⟩ := hW
  have hA : DataW.TrodAll enc Try.prog W 0 (fun _ => true) true Try.f7.params.toList args.toList ds p := hA0
  rw [Try.params7] at hA hval
  obtain ⟨v0, vs0, d0, ds0, p0, q0, hargs, rfl, rfl, h0, r0⟩ := trodAll_cons hA
  obtain ⟨rfl, rfl, rfl⟩ := trodAll_nil r0
  obtain rfl : args = #[v0] := by cases args; simp_all
  obtain ⟨rfl, rfl⟩ := trodVars_none hV
  have k0 := h0
  have lt0 : ∀ x ∈ p0, x.block < W.heap.size := by obtain ⟨m, hm⟩ := k0; exact DataW.trod_lt m _ _ _ hm
  obtain ⟨a0, len0, cap0, rfl⟩ := okWide_slice Try.underlying22 (hval 0 22 v0 rfl rfl)
  obtain ⟨z0, R0⟩ := open_byteS h0
  clear hA0 hval0
  refine (law_FnWeights W a0 len0 cap0 z0 R0).mono fun e W' ⟨he, bel⟩ => ?_
  subst he
  exact ⟨_, rfl, _, _, _, [], _, [], hW', trodAll_mk1 (shut_bool Try.underlying4 _), (trodAll_cons_mk (Below.trod laid_out (by kernel_rfl) (of_decide_eq_true (by kernel_rfl)) k0 bel lt0) trodAll_mk0), rfl, bel.frame _, fun h => by cases h⟩

theorem FnWeights_holds : Rows.FnWeightsSaid :=
  OpenClaim.holds_of_wide 7 Try.f7 rfl rfl rfl rfl rfl rfl rfl ⟨rfl, rfl, rfl, rfl, rfl⟩ rfl rfl rfl rfl rfl (by kernel_rfl) Try.func7 (by kernel_rfl)
    (of_decide_eq_true (by kernel_rfl)) (by unfold Func.isWrapper; first | (rw [if_pos (by decide +kernel)]; kernel_rfl) | (rw [if_neg (by decide +kernel)]; exact ⟨rfl, rfl⟩))
    (fun os started H enc _ => lifted_FnWeights os started H enc)

end Go.Proofs.Ytidmbeeadbedaaa
