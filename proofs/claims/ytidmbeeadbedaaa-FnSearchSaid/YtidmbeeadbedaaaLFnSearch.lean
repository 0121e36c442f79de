/- For every input the law FnSearch returns true and leaves its argument as it was. No condition. -/
import Derived.Test.YtidmbeeadbedaaaMg13
import Derived.Test.YtidmbeeadbedaaaMkR
import Derived.Test.YtidmbeeadbedaaaSeaQ
import Derived.Test.YtidmbeeadbedaaaFw
import Derived.Test.YtidmbeeadbedaaaMg15
import Derived.Test.YtidmbeeadbedaaaShort
import Derived.Test.YtidmbeeadbedaaaMg9
import Derived.Test.YtidmbeeadbedaaaTurn
import Derived.Deep.RegionLaw
import Derived.Test.YtidmbeeadbedaaaLinks
namespace Go.Proofs.Ytidmbeeadbedaaa
open Go.ChangeShapes Go.WideShapes Go.ChangeAt Go.RowKit Go.Shelf

set_option maxRecDepth 100000 in
set_option maxHeartbeats 40000000 in
theorem law_FnSearch (w : World) (A0 : Option Addr) (n0 c0 : Nat) (zs : List Int) (R0 : Rd w A0 (u8c zs) ∧ n0 = zs.length ∧ n0 ≤ maxLen ∧ ∀ z ∈ zs, (Lit.int .u8 z).wf = true) :
    Calls Try.prog 4 #[.slice A0 n0 c0] w (Kept w (.bool true)) := by
  obtain ⟨hr, hn, hm0, hwf⟩ := R0
  have hz : ∀ z ∈ zs, 0 ≤ z ∧ z ≤ 255 := fun z h => byte_wf (hwf z h)
  unfold maxLen at hm0
  by_cases hb : n0 ≤ 1048576
  rotate_left
  · have hbi : (1048576 : Int) < (n0 : Int) := by omega
    go_enter Try.func4, Try.ntmps4
    go_wp2_with fail
    go_ret
    exact ⟨rfl, Below.refl _ _⟩
  have hMk : Calls Try.prog 20 #[.slice A0 n0 c0, .int .i64 0] w _ := makeRules_any A0 n0 c0 zs 0 w hr hn hb hz (by omega)
  have hMn : ∀ (W : World), Below w.heap.size w W → Calls Try.prog 21 #[.slice A0 n0 c0, .int .i64 20] W _ := fun W h => makeNum_any A0 n0 c0 zs 20 W (hr.keep h) hn hb hz (by omega)
  have hMw : ∀ (W : World) (m : Nat), Below w.heap.size w W → m ≤ 16 → Calls Try.prog 22 #[.slice A0 n0 c0, .int .i64 22, .int .i64 2, .int .i64 (m : Int)] W _ := fun W m h hm => makeWord_any A0 n0 c0 zs 22 2 m W (hr.keep h) hn hb hz (by omega) (by omega) (by omega) hm
  have hMv : ∀ (W : World), Below w.heap.size w W → Calls Try.prog 21 #[.slice A0 n0 c0, .int .i64 40] W _ := fun W h => makeNum_any A0 n0 c0 zs 40 W (hr.keep h) hn hb hz (by omega)
  have hMx : ∀ (W : World), Below w.heap.size w W → Calls Try.prog 21 #[.slice A0 n0 c0, .int .i64 42] W _ := fun W h => makeNum_any A0 n0 c0 zs 42 W (hr.keep h) hn hb hz (by omega)
  clear hr hn hz hwf hm0
  have HMk := Lib.hid hMk
  clear hMk
  have HMn := Lib.hid hMn
  clear hMn
  have HMw := Lib.hid hMw
  clear hMw
  have HMv := Lib.hid hMv
  clear hMv
  have HMx := Lib.hid hMx
  clear hMx
  go_enter Try.func4, Try.ntmps4
  go_wp2_with fail
  with_reducible refine HMk.out.mono ?_
  rintro e w1 ⟨B, k, d, rs, hro, hk, rfl, hO, b1⟩
  have hkb : k ≤ 1048576 := by rw [hk]; have := rulesOk_12 hro; omega
  have hzs := sys_sizes hro
  have hrd := Rd.of_own hO
  clear hO HMk
  have Hk := Lib.hid hk
  clear hk
  have Hzs := Lib.hid hzs
  clear hzs
  have Hro := Lib.hid hro
  clear hro
  have Hrd := Lib.hid hrd
  clear hrd
  have B1 := Lib.hid b1
  clear b1
  have bb := (Below.refl w1.heap.size w1).alloc (Nat.le_refl _) (.cells #[.int .i64 2, .slice B k d] 25)
  have hNB := Bk.new w1 25 #[.int .i64 2, .slice B k d]
  go_wp2_with fail
  obtain ⟨b_s, hbn⟩ : ∃ z, z = w1.heap.size := ⟨_, rfl⟩
  obtain ⟨w2, hwn⟩ : ∃ z, z = w1.alloc (.cells #[.int .i64 2, .slice B k d] 25) := ⟨_, rfl⟩
  rw [← hwn] at bb
  rw [← hbn, ← hwn] at hNB
  rw [← hwn]
  try rw [← hbn]
  have HR_s_2 := Lib.hid (Hrd.out.keep bb)
  clear Hrd
  have HL_2 := Lib.hid (B1.out.trans (bb.mono B1.out.size))
  clear B1
  have HB_s_2 := Lib.hid hNB
  clear hNB bb
  have Hbn_s := Lib.hid hbn
  clear hbn hwn
  have c_s_0 : w2.cell? ⟨b_s, 0, none⟩ = some (.int .i64 2) := by rw [HB_s_2.out.cell]; rfl
  have c_s_1 : w2.cell? ⟨b_s, 1, none⟩ = some (.slice B k d) := by rw [HB_s_2.out.cell]; rfl
  have l_s := HB_s_2.out.lt
  (try go_wp2_with fail)
  with_reducible refine (HMn.out _ HL_2.out).mono ?_
  rintro e w3 ⟨x1, -, rfl, bb⟩
  clear c_s_0 c_s_1 l_s
  have HB_s_3 := Lib.hid (HB_s_2.out.below bb HB_s_2.out.lt)
  clear HB_s_2
  have HR_s_3 := Lib.hid (HR_s_2.out.keep bb)
  clear HR_s_2
  have HL_3 := Lib.hid (HL_2.out.trans (bb.mono HL_2.out.size))
  clear HL_2
  clear bb
  have c_s_0 : w3.cell? ⟨b_s, 0, none⟩ = some (.int .i64 2) := by rw [HB_s_3.out.cell]; rfl
  have c_s_1 : w3.cell? ⟨b_s, 1, none⟩ = some (.slice B k d) := by rw [HB_s_3.out.cell]; rfl
  have l_s := HB_s_3.out.lt
  have hmod : (x1 : Int).tmod 3 = ((x1 % 3 : Nat) : Int) := by rw [Int.tmod_eq_emod_of_nonneg (by omega)]; rfl
  have hq3 : x1 % 3 < 3 := Nat.mod_lt _ (by omega)
  obtain ⟨q, hq⟩ : ∃ z, z = x1 % 3 := ⟨_, rfl⟩
  rw [← hq] at hmod hq3
  obtain ⟨m, hm⟩ : ∃ z, z = 2 + q := ⟨_, rfl⟩
  have hlim : 2 + (q : Int) = (m : Int) := by omega
  have hm2 : m ≤ 4 := by omega
  clear hq hm
  (try go_wp2_with fail)
  with_reducible refine (HMw.out _ m HL_3.out (by omega)).mono ?_
  rintro e w4 ⟨u, hum, huL, rfl, bb⟩
  clear c_s_0 c_s_1 l_s
  have HB_s_4 := Lib.hid (HB_s_3.out.below bb HB_s_3.out.lt)
  clear HB_s_3
  have HR_s_4 := Lib.hid (HR_s_3.out.keep bb)
  clear HR_s_3
  have HL_4 := Lib.hid (HL_3.out.trans (bb.mono HL_3.out.size))
  clear HL_3
  clear bb
  have c_s_0 : w4.cell? ⟨b_s, 0, none⟩ = some (.int .i64 2) := by rw [HB_s_4.out.cell]; rfl
  have c_s_1 : w4.cell? ⟨b_s, 1, none⟩ = some (.slice B k d) := by rw [HB_s_4.out.cell]; rfl
  have l_s := HB_s_4.out.lt
  clear hmod hlim hq3
  have hwu : wordOk 2 u = true := wordOk_mk (by decide) (by decide) (by omega) huL
  have hU : In15 2 rs (m : Int) u := In15.mk (searchOk_two Hro.out hm2) hwu (by omega)
  have hub : u.size ≤ 1048576 := by omega
  have hus : searched 2 rs u (m : Int) = true := hU
  obtain ⟨E, hE⟩ : ∃ E, E = eqL 2 rs u (m : Int) := ⟨_, rfl⟩
  have hEp : 0 < E.length := by rw [hE]; exact List.length_pos_of_mem (eq_self hU)
  have hEb : E.length ≤ 1048576 := by rw [hE]; exact eqL_len _ _ _ _
  have hEi : ∀ v ∈ E, In15 2 rs (m : Int) v ∧ 0 ≤ distB 2 rs u v (m : Int) ∧ eqL 2 rs v (m : Int) = E := fun v hv => by
    rw [hE] at hv ⊢
    obtain ⟨a, b⟩ := eq_in hU hv
    exact ⟨a, b, eq_same hU hv⟩
  have hEl : ∀ (i : Nat) (hi : i + 1 < E.length), lessW (E[i]'(by omega)) E[i + 1] = true := fun i hi => by subst hE; exact eq_less hU hi
  have hfw := fw_in hU
  have hfw2 := fw_le hU
  obtain ⟨T, hT⟩ : ∃ T, T = E.length := ⟨_, rfl⟩
  rw [← hE] at hfw
  rw [← hT] at hEp hEb
  clear huL
  have Hwu := Lib.hid hwu
  clear hwu
  have HU := Lib.hid hU
  clear hU
  have Hus := Lib.hid hus
  clear hus
  have HE := Lib.hid hE
  clear hE
  have HEi := Lib.hid hEi
  clear hEi
  have HEl := Lib.hid hEl
  clear hEl
  have Hfw := Lib.hid hfw
  clear hfw
  have Hfw2 := Lib.hid hfw2
  clear hfw2
  have HT := Lib.hid hT
  clear hT
  (try go_wp2_with fail)
  with_reducible refine (implEqualWords_any 2 B k d rs u (m : Int) _ HR_s_4.out Hk.out hkb Hzs.out hub).mono ?_
  rintro e w5 ⟨C, cc, rfl, hOE, bb⟩
  clear c_s_0 c_s_1 l_s
  have HB_s_5 := Lib.hid (HB_s_4.out.below bb HB_s_4.out.lt)
  clear HB_s_4
  have HR_s_5 := Lib.hid (HR_s_4.out.keep bb)
  clear HR_s_4
  have HL_5 := Lib.hid (HL_4.out.trans (bb.mono HL_4.out.size))
  clear HL_4
  clear bb
  have c_s_0 : w5.cell? ⟨b_s, 0, none⟩ = some (.int .i64 2) := by rw [HB_s_5.out.cell]; rfl
  have c_s_1 : w5.cell? ⟨b_s, 1, none⟩ = some (.slice B k d) := by rw [HB_s_5.out.cell]; rfl
  have l_s := HB_s_5.out.lt
  rw [← HE.out, ← HT.out] at hOE
  rw [← HE.out, ← HT.out, Hus.out]
  have hRE := Rd.of_own hOE
  obtain ⟨bl, off, rfl⟩ := rd_some hRE (by rw [strs_len, ← HT.out]; exact hEp)
  have hT0 : ((T : Int) == 0) = false := by simp; omega
  have hT1 : ¬ (T : Int) = 0 := by omega
  clear hOE
  have HRE := Lib.hid hRE
  clear hRE
  (try go_wp2_with fail)
  with_reducible refine (HMv.out _ HL_5.out).mono ?_
  rintro e w6 ⟨x_v, hx_v, rfl, bb⟩
  clear c_s_0 c_s_1 l_s
  have HB_s_6 := Lib.hid (HB_s_5.out.below bb HB_s_5.out.lt)
  clear HB_s_5
  have HR_s_6 := Lib.hid (HR_s_5.out.keep bb)
  clear HR_s_5
  have HR_E_6 := Lib.hid (HRE.out.keep bb)
  clear HRE
  have HL_6 := Lib.hid (HL_5.out.trans (bb.mono HL_5.out.size))
  clear HL_5
  clear bb
  have c_s_0 : w6.cell? ⟨b_s, 0, none⟩ = some (.int .i64 2) := by rw [HB_s_6.out.cell]; rfl
  have c_s_1 : w6.cell? ⟨b_s, 1, none⟩ = some (.slice B k d) := by rw [HB_s_6.out.cell]; rfl
  have l_s := HB_s_6.out.lt
  have hmod_v : (x_v : Int).tmod (T : Int) = ((x_v % T : Nat) : Int) := by rw [Int.tmod_eq_emod_of_nonneg (by omega)]; rfl
  have hi_v : x_v % T < T := Nat.mod_lt _ (by omega)
  obtain ⟨i_v, hii⟩ : ∃ z, z = x_v % T := ⟨_, rfl⟩
  rw [← hii] at hmod_v hi_v
  clear hii
  have hlt_v : i_v < E.length := by rw [← HT.out]; exact hi_v
  obtain ⟨v, hv_v⟩ : ∃ z, z = E[i_v] := ⟨_, rfl⟩
  have hm_v : v ∈ E := by rw [hv_v]; exact List.getElem_mem hlt_v
  have hc_v := rd_get HR_E_6.out (strs_at hlt_v)
  rw [← hv_v] at hc_v
  obtain ⟨hI_v, hd_v, hs_v⟩ := HEi.out v hm_v
  have hb_v : v.size ≤ 1048576 := by have := (wordOk_out hI_v.out.2.2.2.2.2.1).2.2.1; omega
  clear hv_v hm_v hx_v
  have HI_v := Lib.hid hI_v
  clear hI_v
  have Hd_v := Lib.hid hd_v
  clear hd_v
  have Hs_v := Lib.hid hs_v
  clear hs_v
  have Hlt_v := Lib.hid hlt_v
  clear hlt_v
  (try go_wp2_with fail)
  with_reducible refine (HMx.out _ HL_6.out).mono ?_
  rintro e w7 ⟨x_y, hx_y, rfl, bb⟩
  clear c_s_0 c_s_1 l_s hc_v
  have HB_s_7 := Lib.hid (HB_s_6.out.below bb HB_s_6.out.lt)
  clear HB_s_6
  have HR_s_7 := Lib.hid (HR_s_6.out.keep bb)
  clear HR_s_6
  have HR_E_7 := Lib.hid (HR_E_6.out.keep bb)
  clear HR_E_6
  have HL_7 := Lib.hid (HL_6.out.trans (bb.mono HL_6.out.size))
  clear HL_6
  clear bb
  have c_s_0 : w7.cell? ⟨b_s, 0, none⟩ = some (.int .i64 2) := by rw [HB_s_7.out.cell]; rfl
  have c_s_1 : w7.cell? ⟨b_s, 1, none⟩ = some (.slice B k d) := by rw [HB_s_7.out.cell]; rfl
  have l_s := HB_s_7.out.lt
  have hmod_y : (x_y : Int).tmod (T : Int) = ((x_y % T : Nat) : Int) := by rw [Int.tmod_eq_emod_of_nonneg (by omega)]; rfl
  have hi_y : x_y % T < T := Nat.mod_lt _ (by omega)
  obtain ⟨i_y, hii⟩ : ∃ z, z = x_y % T := ⟨_, rfl⟩
  rw [← hii] at hmod_y hi_y
  clear hii
  have hlt_y : i_y < E.length := by rw [← HT.out]; exact hi_y
  obtain ⟨y, hv_y⟩ : ∃ z, z = E[i_y] := ⟨_, rfl⟩
  have hm_y : y ∈ E := by rw [hv_y]; exact List.getElem_mem hlt_y
  have hc_y := rd_get HR_E_7.out (strs_at hlt_y)
  rw [← hv_y] at hc_y
  obtain ⟨hI_y, hd_y, hs_y⟩ := HEi.out y hm_y
  have hb_y : y.size ≤ 1048576 := by have := (wordOk_out hI_y.out.2.2.2.2.2.1).2.2.1; omega
  clear hv_y hm_y hx_y
  have HI_y := Lib.hid hI_y
  clear hI_y
  have Hd_y := Lib.hid hd_y
  clear hd_y
  have Hs_y := Lib.hid hs_y
  clear hs_y
  have Hlt_y := Lib.hid hlt_y
  clear hlt_y
  (try go_wp2_with fail)
  with_reducible refine (implDistanceBetween_any 2 B k d rs u v (m : Int) _ HR_s_7.out Hk.out hkb Hzs.out hub hb_v).mono ?_
  rintro e w8 ⟨rfl, bb⟩
  clear c_s_0 c_s_1 l_s hc_y
  have HB_s_8 := Lib.hid (HB_s_7.out.below bb HB_s_7.out.lt)
  clear HB_s_7
  have HR_s_8 := Lib.hid (HR_s_7.out.keep bb)
  clear HR_s_7
  have HR_E_8 := Lib.hid (HR_E_7.out.keep bb)
  clear HR_E_7
  have HL_8 := Lib.hid (HL_7.out.trans (bb.mono HL_7.out.size))
  clear HL_7
  clear bb
  have c_s_0 : w8.cell? ⟨b_s, 0, none⟩ = some (.int .i64 2) := by rw [HB_s_8.out.cell]; rfl
  have c_s_1 : w8.cell? ⟨b_s, 1, none⟩ = some (.slice B k d) := by rw [HB_s_8.out.cell]; rfl
  have l_s := HB_s_8.out.lt
  obtain ⟨duv, he_duv⟩ : ∃ z, z = distB 2 rs u v (m : Int) := ⟨_, rfl⟩
  rw [← he_duv]
  have He_duv := Lib.hid he_duv
  clear he_duv
  clear hmod_v hmod_y hi_v hi_y hT0 hT1
  (try go_wp2_with fail)
  with_reducible refine (implDistanceBetween_any 2 B k d rs v y (m : Int) _ HR_s_8.out Hk.out hkb Hzs.out hb_v hb_y).mono ?_
  rintro e w9 ⟨rfl, bb⟩
  clear c_s_0 c_s_1 l_s
  have HB_s_9 := Lib.hid (HB_s_8.out.below bb HB_s_8.out.lt)
  clear HB_s_8
  have HR_s_9 := Lib.hid (HR_s_8.out.keep bb)
  clear HR_s_8
  have HR_E_9 := Lib.hid (HR_E_8.out.keep bb)
  clear HR_E_8
  have HL_9 := Lib.hid (HL_8.out.trans (bb.mono HL_8.out.size))
  clear HL_8
  clear bb
  have c_s_0 : w9.cell? ⟨b_s, 0, none⟩ = some (.int .i64 2) := by rw [HB_s_9.out.cell]; rfl
  have c_s_1 : w9.cell? ⟨b_s, 1, none⟩ = some (.slice B k d) := by rw [HB_s_9.out.cell]; rfl
  have l_s := HB_s_9.out.lt
  obtain ⟨dvy, he_dvy⟩ : ∃ z, z = distB 2 rs v y (m : Int) := ⟨_, rfl⟩
  rw [← he_dvy]
  have He_dvy := Lib.hid he_dvy
  clear he_dvy
  (try go_wp2_with fail)
  with_reducible refine (implDistanceBetween_any 2 B k d rs u y (m : Int) _ HR_s_9.out Hk.out hkb Hzs.out hub hb_y).mono ?_
  rintro e w10 ⟨rfl, bb⟩
  clear c_s_0 c_s_1 l_s
  have HB_s_10 := Lib.hid (HB_s_9.out.below bb HB_s_9.out.lt)
  clear HB_s_9
  have HR_s_10 := Lib.hid (HR_s_9.out.keep bb)
  clear HR_s_9
  have HR_E_10 := Lib.hid (HR_E_9.out.keep bb)
  clear HR_E_9
  have HL_10 := Lib.hid (HL_9.out.trans (bb.mono HL_9.out.size))
  clear HL_9
  clear bb
  have c_s_0 : w10.cell? ⟨b_s, 0, none⟩ = some (.int .i64 2) := by rw [HB_s_10.out.cell]; rfl
  have c_s_1 : w10.cell? ⟨b_s, 1, none⟩ = some (.slice B k d) := by rw [HB_s_10.out.cell]; rfl
  have l_s := HB_s_10.out.lt
  obtain ⟨duy, he_duy⟩ : ∃ z, z = distB 2 rs u y (m : Int) := ⟨_, rfl⟩
  rw [← he_duy]
  have He_duy := Lib.hid he_duy
  clear he_duy
  have k1 := Hd_v.out
  have k2 := Hd_y.out
  have k3 := dist_tri HI_v.out HU.out HI_y.out (by rw [dist_sym HU.out HI_v.out k1]; exact k1) k2
  have k4 := dist_tri HU.out HI_v.out HI_y.out k1 k3.1
  have k5 := dist_le HU.out HI_v.out
  have k6 := dist_le HI_v.out HI_y.out
  have k7 := dist_sym HU.out HI_v.out k1
  obtain ⟨k8, k9, k10⟩ := short_good HU.out HI_v.out (by omega) k1
  have k11 := @one_link 2 rs u v (m : Int) HU.out HI_v.out
  have k3 := k3.1
  have k4 := k4.2
  rw [← He_duv.out] at k1 k4 k5 k7 k9 k11
  rw [← He_dvy.out] at k3 k4 k6
  rw [← He_duy.out] at k2 k4
  obtain ⟨Q, hQ⟩ : ∃ Q, Q = (shC 2 rs u v (m : Int)).length := ⟨_, rfl⟩
  rw [← hQ] at k9
  subst k9
  have hQb : Q ≤ 131072 := by omega
  have hws : IntKind.i64.wrap ((Q : Int) + dvy) = (Q : Int) + dvy := IntWalk.i64_in _ ⟨by omega, by omega⟩
  clear Hd_v Hd_y
  have K7 := Lib.hid k7
  clear k7
  have K8 := Lib.hid k8
  clear k8
  have K10 := Lib.hid k10
  clear k10
  have K11 := Lib.hid k11
  clear k11
  have HQ := Lib.hid hQ
  clear hQ
  (try go_wp2_with fail)
  with_reducible refine (implShortestChain_any 2 B k d rs u v (m : Int) _ HR_s_10.out Hk.out hkb Hzs.out hub hb_v).mono ?_
  rintro e w11 ⟨C2, c2, rfl, hO2, bb⟩
  clear c_s_0 c_s_1 l_s
  have HB_s_11 := Lib.hid (HB_s_10.out.below bb HB_s_10.out.lt)
  clear HB_s_10
  have HR_s_11 := Lib.hid (HR_s_10.out.keep bb)
  clear HR_s_10
  have HR_E_11 := Lib.hid (HR_E_10.out.keep bb)
  clear HR_E_10
  have HL_11 := Lib.hid (HL_10.out.trans (bb.mono HL_10.out.size))
  clear HL_10
  clear bb
  have c_s_0 : w11.cell? ⟨b_s, 0, none⟩ = some (.int .i64 2) := by rw [HB_s_11.out.cell]; rfl
  have c_s_1 : w11.cell? ⟨b_s, 1, none⟩ = some (.slice B k d) := by rw [HB_s_11.out.cell]; rfl
  have l_s := HB_s_11.out.lt
  rw [← HQ.out] at hO2
  rw [← HQ.out, K8.out]
  have hR2 := Rd.of_own hO2
  clear hO2
  have HR2 := Lib.hid hR2
  clear hR2
  (try go_wp2_with fail)
  with_reducible refine (implEqualWords_any 2 B k d rs v (m : Int) _ HR_s_11.out Hk.out hkb Hzs.out hb_v).mono ?_
  rintro e w12 ⟨C3, c3, rfl, hO3, bb⟩
  clear c_s_0 c_s_1 l_s
  have HB_s_12 := Lib.hid (HB_s_11.out.below bb HB_s_11.out.lt)
  clear HB_s_11
  have HR_s_12 := Lib.hid (HR_s_11.out.keep bb)
  clear HR_s_11
  have HR_E_12 := Lib.hid (HR_E_11.out.keep bb)
  clear HR_E_11
  have HR_C_12 := Lib.hid (HR2.out.keep bb)
  clear HR2
  have HL_12 := Lib.hid (HL_11.out.trans (bb.mono HL_11.out.size))
  clear HL_11
  clear bb
  have c_s_0 : w12.cell? ⟨b_s, 0, none⟩ = some (.int .i64 2) := by rw [HB_s_12.out.cell]; rfl
  have c_s_1 : w12.cell? ⟨b_s, 1, none⟩ = some (.slice B k d) := by rw [HB_s_12.out.cell]; rfl
  have l_s := HB_s_12.out.lt
  have hvs : searched 2 rs v (m : Int) = true := HI_v.out
  rw [Hs_v.out, ← HT.out] at hO3
  rw [Hs_v.out, ← HT.out, hvs]
  have hR3 := Rd.of_own hO3
  clear hO3 hvs
  have HR3 := Lib.hid hR3
  clear hR3
  (try go_wp2_with fail)
  with_reducible refine (implFarthestWord_any 2 B k d rs u (m : Int) _ HR_s_12.out Hk.out hkb Hzs.out hub).mono ?_
  rintro e w13 ⟨rfl, bb⟩
  clear c_s_0 c_s_1 l_s
  have HB_s_13 := Lib.hid (HB_s_12.out.below bb HB_s_12.out.lt)
  clear HB_s_12
  have HR_s_13 := Lib.hid (HR_s_12.out.keep bb)
  clear HR_s_12
  have HR_E_13 := Lib.hid (HR_E_12.out.keep bb)
  clear HR_E_12
  have HR_C_13 := Lib.hid (HR_C_12.out.keep bb)
  clear HR_C_12
  have HR_M_13 := Lib.hid (HR3.out.keep bb)
  clear HR3
  have HL_13 := Lib.hid (HL_12.out.trans (bb.mono HL_12.out.size))
  clear HL_12
  clear bb
  have c_s_0 : w13.cell? ⟨b_s, 0, none⟩ = some (.int .i64 2) := by rw [HB_s_13.out.cell]; rfl
  have c_s_1 : w13.cell? ⟨b_s, 1, none⟩ = some (.slice B k d) := by rw [HB_s_13.out.cell]; rfl
  have l_s := HB_s_13.out.lt
  obtain ⟨fa, hfa⟩ : ∃ z, z = fwS 2 rs u (m : Int) := ⟨_, rfl⟩
  obtain ⟨df, hdf⟩ : ∃ z, z = fwF 2 rs u (m : Int) := ⟨_, rfl⟩
  have hf1 := Hfw.out
  have hf2 := Hfw2.out
  rw [← hfa, ← hdf] at hf1 hf2
  rw [← hfa, ← hdf]
  obtain ⟨hf3, hf4, hf5⟩ := hf1
  obtain ⟨hf6, hf7⟩ := hf2
  have hfb : fa.size ≤ 1048576 := by omega
  clear hfa hdf Hfw Hfw2
  have Hf3 := Lib.hid hf3
  clear hf3
  have Hf4 := Lib.hid hf4
  clear hf4
  have Hf5 := Lib.hid hf5
  clear hf5
  (try go_wp2_with fail)
  with_reducible refine (implIsProof_any 2 B k d rs u v C2 Q c2 (shC 2 rs u v (m : Int)) _ HR_s_13.out Hk.out hkb Hzs.out hub hb_v HR_C_13.out HQ.out (by omega)).mono ?_
  rintro e w14 ⟨rfl, bb⟩
  clear c_s_0 c_s_1 l_s
  have HB_s_14 := Lib.hid (HB_s_13.out.below bb HB_s_13.out.lt)
  clear HB_s_13
  have HR_s_14 := Lib.hid (HR_s_13.out.keep bb)
  clear HR_s_13
  have HR_E_14 := Lib.hid (HR_E_13.out.keep bb)
  clear HR_E_13
  have HR_C_14 := Lib.hid (HR_C_13.out.keep bb)
  clear HR_C_13
  have HR_M_14 := Lib.hid (HR_M_13.out.keep bb)
  clear HR_M_13
  have HL_14 := Lib.hid (HL_13.out.trans (bb.mono HL_13.out.size))
  clear HL_13
  clear bb
  have c_s_0 : w14.cell? ⟨b_s, 0, none⟩ = some (.int .i64 2) := by rw [HB_s_14.out.cell]; rfl
  have c_s_1 : w14.cell? ⟨b_s, 1, none⟩ = some (.slice B k d) := by rw [HB_s_14.out.cell]; rfl
  have l_s := HB_s_14.out.lt
  rw [K10.out]
  (try go_wp2_with fail)
  with_reducible refine (implDistanceBetween_any 2 B k d rs v u (m : Int) _ HR_s_14.out Hk.out hkb Hzs.out hb_v hub).mono ?_
  rintro e w15 ⟨rfl, bb⟩
  clear c_s_0 c_s_1 l_s
  have HB_s_15 := Lib.hid (HB_s_14.out.below bb HB_s_14.out.lt)
  clear HB_s_14
  have HR_s_15 := Lib.hid (HR_s_14.out.keep bb)
  clear HR_s_14
  have HR_E_15 := Lib.hid (HR_E_14.out.keep bb)
  clear HR_E_14
  have HR_C_15 := Lib.hid (HR_C_14.out.keep bb)
  clear HR_C_14
  have HR_M_15 := Lib.hid (HR_M_14.out.keep bb)
  clear HR_M_14
  have HL_15 := Lib.hid (HL_14.out.trans (bb.mono HL_14.out.size))
  clear HL_14
  clear bb
  have c_s_0 : w15.cell? ⟨b_s, 0, none⟩ = some (.int .i64 2) := by rw [HB_s_15.out.cell]; rfl
  have c_s_1 : w15.cell? ⟨b_s, 1, none⟩ = some (.slice B k d) := by rw [HB_s_15.out.cell]; rfl
  have l_s := HB_s_15.out.lt
  rw [K7.out]
  (try go_wp2_with fail)
  with_reducible refine (words_same _ _ T cc c3 E _ HR_E_15.out HR_M_15.out HT.out hEb).mono ?_
  rintro e wq ⟨rfl, hwq⟩
  have hwq2 := hwq.symm
  subst hwq2
  clear hwq
  (try go_wp2_with fail)
  clear c_s_0 c_s_1 l_s
  clear HR_C_15
  clear HR_M_15
  have c_s_0 : w15.cell? ⟨b_s, 0, none⟩ = some (.int .i64 2) := by rw [HB_s_15.out.cell]; rfl
  have c_s_1 : w15.cell? ⟨b_s, 1, none⟩ = some (.slice B k d) := by rw [HB_s_15.out.cell]; rfl
  have l_s := HB_s_15.out.lt
  clear hws
  go_loopw [156] (fun i wr => ∃ j : Nat, i = .int .i64 j ∧ j ≤ T ∧ Hid (Bk wr b_s 25 #[.int .i64 2, .slice B k d]) ∧ Hid (Rd wr (some ⟨bl, off, none⟩) (strs E)) ∧ Hid (Rd wr B (cellsRule rs)) ∧ Hid (Below w.heap.size w wr)) (fun i _ => T - (intOf i).toNat)
  case atStart => exact ⟨0, rfl, Nat.zero_le _, HB_s_15, HR_E_15, HR_s_15, HL_15⟩
  clear c_s_0 c_s_1 l_s
  case round =>
    clear HB_s_15 HR_E_15 HR_s_15 HL_15
    obtain ⟨j, rfl, hj, HBs, HRE, HRs, HLw⟩ := hrel
    have c_s_0 : wr.cell? ⟨b_s, 0, none⟩ = some (.int .i64 2) := by rw [HBs.out.cell]; rfl
    have c_s_1 : wr.cell? ⟨b_s, 1, none⟩ = some (.slice B k d) := by rw [HBs.out.cell]; rfl
    have l_s := HBs.out.lt
    by_cases hlt : j < T
    · skip
      have hjE : j < E.length := by rw [← HT.out]; exact hlt
      obtain ⟨x, hx⟩ : ∃ z, z = E[j] := ⟨_, rfl⟩
      have hm_x : x ∈ E := by rw [hx]; exact List.getElem_mem hjE
      have hcj := rd_get HRE.out (strs_at hjE)
      rw [← hx] at hcj
      have hI_x := (HEi.out x hm_x).1
      have hb_x : x.size ≤ 1048576 := by have := (wordOk_out hI_x.out.2.2.2.2.2.1).2.2.1; omega
      have hd_x := Hf5.out x hm_x
      obtain ⟨dx, hdx⟩ : ∃ z, z = distB 2 rs u x (m : Int) := ⟨_, rfl⟩
      rw [← hdx] at hd_x
      clear hI_x
      have Hdx := Lib.hid hdx
      clear hdx
      by_cases h0 : j = 0
      · skip
        subst h0
        rw [Nat.add_zero] at hcj
        clear hx hm_x hjE hlt
        (try go_wp2_with fail)
        with_reducible refine (implDistanceBetween_any 2 B k d rs u x (m : Int) _ HRs.out Hk.out hkb Hzs.out hub hb_x).mono ?_
        rintro e w16 ⟨rfl, bb⟩
        clear c_s_0 c_s_1 l_s
        have HB_s_16 := Lib.hid (HBs.out.below bb HBs.out.lt)
        clear HBs
        have HR_s_16 := Lib.hid (HRs.out.keep bb)
        clear HRs
        have HR_E_16 := Lib.hid (HRE.out.keep bb)
        clear HRE
        have HL_16 := Lib.hid (HLw.out.trans (bb.mono HLw.out.size))
        clear HLw
        clear bb
        have c_s_0 : w16.cell? ⟨b_s, 0, none⟩ = some (.int .i64 2) := by rw [HB_s_16.out.cell]; rfl
        have c_s_1 : w16.cell? ⟨b_s, 1, none⟩ = some (.slice B k d) := by rw [HB_s_16.out.cell]; rfl
        have l_s := HB_s_16.out.lt
        rw [← Hdx.out]
        go_wp2_with fail
        go_roundw
        case rel => exact ⟨1, by go_num, by omega, HB_s_16, HR_E_16, HR_s_16, HL_16⟩
        case measure => simp [intOf] <;> omega
      · skip
        obtain ⟨i, rfl⟩ : ∃ i, j = i + 1 := ⟨j - 1, by omega⟩
        have hpE : i < E.length := by omega
        obtain ⟨p, hp⟩ : ∃ z, z = E[i] := ⟨_, rfl⟩
        have hcp := rd_get HRE.out (strs_at hpE)
        rw [← hp] at hcp
        have hb_p : p.size ≤ 1048576 := by have := (wordOk_out (HEi.out p (by rw [hp]; exact List.getElem_mem hpE)).1.out.2.2.2.2.2.1).2.2.1; omega
        have hlp := HEl.out i hjE
        rw [← hp, ← hx] at hlp
        have hi0 : (0 : Int) < (i : Int) + 1 := by omega
        have hi1 : (i : Int) + 1 - 1 = (i : Int) := by omega
        clear hx hm_x hjE h0 hpE hp
        have Hlp := Lib.hid hlp
        clear hlp
        (try go_wp2_with fail)
        with_reducible refine (implLess_any p x _ (by omega) (by omega)).mono ?_
        rintro e w16 ⟨rfl, bb⟩
        clear c_s_0 c_s_1 l_s hcp hcj
        have HB_s_16 := Lib.hid (HBs.out.below bb HBs.out.lt)
        clear HBs
        have HR_s_16 := Lib.hid (HRs.out.keep bb)
        clear HRs
        have HR_E_16 := Lib.hid (HRE.out.keep bb)
        clear HRE
        have HL_16 := Lib.hid (HLw.out.trans (bb.mono HLw.out.size))
        clear HLw
        clear bb
        have c_s_0 : w16.cell? ⟨b_s, 0, none⟩ = some (.int .i64 2) := by rw [HB_s_16.out.cell]; rfl
        have c_s_1 : w16.cell? ⟨b_s, 1, none⟩ = some (.slice B k d) := by rw [HB_s_16.out.cell]; rfl
        have l_s := HB_s_16.out.lt
        rw [Hlp.out]
        (try go_wp2_with fail)
        with_reducible refine (implDistanceBetween_any 2 B k d rs u x (m : Int) _ HR_s_16.out Hk.out hkb Hzs.out hub hb_x).mono ?_
        rintro e w17 ⟨rfl, bb⟩
        clear c_s_0 c_s_1 l_s
        have HB_s_17 := Lib.hid (HB_s_16.out.below bb HB_s_16.out.lt)
        clear HB_s_16
        have HR_s_17 := Lib.hid (HR_s_16.out.keep bb)
        clear HR_s_16
        have HR_E_17 := Lib.hid (HR_E_16.out.keep bb)
        clear HR_E_16
        have HL_17 := Lib.hid (HL_16.out.trans (bb.mono HL_16.out.size))
        clear HL_16
        clear bb
        have c_s_0 : w17.cell? ⟨b_s, 0, none⟩ = some (.int .i64 2) := by rw [HB_s_17.out.cell]; rfl
        have c_s_1 : w17.cell? ⟨b_s, 1, none⟩ = some (.slice B k d) := by rw [HB_s_17.out.cell]; rfl
        have l_s := HB_s_17.out.lt
        rw [← Hdx.out]
        go_wp2_with fail
        go_roundw
        case rel => exact ⟨i + 1 + 1, by go_num, by omega, HB_s_17, HR_E_17, HR_s_17, HL_17⟩
        case measure => simp [intOf] <;> omega
    · skip
      (try go_wp2_with fail)
      with_reducible refine (implDistanceBetween_any 2 B k d rs u fa (m : Int) _ HRs.out Hk.out hkb Hzs.out hub hfb).mono ?_
      rintro e w16 ⟨rfl, bb⟩
      clear c_s_0 c_s_1 l_s
      have HB_s_16 := Lib.hid (HBs.out.below bb HBs.out.lt)
      clear HBs
      have HR_s_16 := Lib.hid (HRs.out.keep bb)
      clear HRs
      have HR_E_16 := Lib.hid (HRE.out.keep bb)
      clear HRE
      have HL_16 := Lib.hid (HLw.out.trans (bb.mono HLw.out.size))
      clear HLw
      clear bb
      have c_s_0 : w16.cell? ⟨b_s, 0, none⟩ = some (.int .i64 2) := by rw [HB_s_16.out.cell]; rfl
      have c_s_1 : w16.cell? ⟨b_s, 1, none⟩ = some (.slice B k d) := by rw [HB_s_16.out.cell]; rfl
      have l_s := HB_s_16.out.lt
      rw [Hf4.out]
      by_cases h1 : Q = 1
      · skip
        subst h1
        have hk := K11.out rfl
        obtain ⟨G, hG⟩ : ∃ z, z = (loL 2 rs u (m : Int)).length := ⟨_, rfl⟩
        rw [← hG] at hk
        have hk2 : (0 : Int) < (G : Int) := by omega
        have HG := Lib.hid hG
        clear hG
        (try go_wp2_with fail)
        with_reducible refine (implLinksOf_any 2 B k d rs u (m : Int) _ HR_s_16.out Hk.out hkb Hzs.out hub).mono ?_
        rintro e w17 ⟨C5, c5, rfl, -, bb⟩
        clear c_s_0 c_s_1 l_s
        have HB_s_17 := Lib.hid (HB_s_16.out.below bb HB_s_16.out.lt)
        clear HB_s_16
        have HR_s_17 := Lib.hid (HR_s_16.out.keep bb)
        clear HR_s_16
        have HR_E_17 := Lib.hid (HR_E_16.out.keep bb)
        clear HR_E_16
        have HL_17 := Lib.hid (HL_16.out.trans (bb.mono HL_16.out.size))
        clear HL_16
        clear bb
        have c_s_0 : w17.cell? ⟨b_s, 0, none⟩ = some (.int .i64 2) := by rw [HB_s_17.out.cell]; rfl
        have c_s_1 : w17.cell? ⟨b_s, 1, none⟩ = some (.slice B k d) := by rw [HB_s_17.out.cell]; rfl
        have l_s := HB_s_17.out.lt
        rw [← HG.out]
        go_wp2_with fail
        go_ret
        exact ⟨rfl, HL_17.out⟩
      · skip
        have h2 : ((Q : Int) == 1) = false := by simp; omega
        have h3 : ((Q : Int) != 1) = true := by simp; omega
        go_wp2_with fail
        go_ret
        exact ⟨rfl, HL_16.out⟩

set_option maxRecDepth 100000 in
theorem lifted_FnSearch (os : Os) (started : os.Started) (H : Type) (enc : TypeId × Value → H) :
    ReturnsInHanded {} Try.checked os 4 .any (Rows.fnSearchSpec.pre6 enc Try.prog Try.f4 Rows.fnSearchRow.domain false) (Rows.fnSearchSpec.post enc Try.prog Try.f4 false true false false) := by
  refine returnsInHanded_of_change (C := Try.checked) own_knob started (by kernel_rfl) Try.func4
    (ChangeSpec.witness6 (enc := enc) (C := Try.checked) false ⟨#[], #[.slice none 0 0], []⟩ 8 (by kernel_rfl) (by kernel_rfl) (by kernel_rfl) (by kernel_rfl)) ?_
  intro W base args ds gs before hval0 hW _ _
  have hval : ∀ (j : Nat) t v, Try.f4.params[j]? = some t → args[j]? = some v → Value.okWide Try.prog W .any base t v := hval0
  have hW' := hW
  obtain ⟨p, q, hA0, hV, rfl, hfz, hnd⟩ := hW
  have hA : DataW.TrodAll enc Try.prog W 0 (fun _ => true) true Try.f4.params.toList args.toList ds p := hA0
  rw [Try.params4] at hA hval
  obtain ⟨v0, vs0, d0, ds0, p0, q0, hargs, rfl, rfl, h0, r0⟩ := trodAll_cons hA
  obtain ⟨rfl, rfl, rfl⟩ := trodAll_nil r0
  obtain rfl : args = #[v0] := by cases args; simp_all
  obtain ⟨rfl, rfl⟩ := trodVars_none hV
  have k0 := h0
  have lt0 : ∀ x ∈ p0, x.block < W.heap.size := by obtain ⟨m, hm⟩ := k0; exact DataW.trod_lt m _ _ _ hm
  obtain ⟨a0, len0, cap0, rfl⟩ := okWide_slice Try.underlying22 (hval 0 22 v0 rfl rfl)
  obtain ⟨z0, R0⟩ := open_byteS h0
  clear hA0 hval0
  refine (law_FnSearch W a0 len0 cap0 z0 R0).mono fun e W' ⟨he, bel⟩ => ?_
  subst he
  exact ⟨_, rfl, _, _, _, [], _, [], hW', trodAll_mk1 (shut_bool Try.underlying4 _), (trodAll_cons_mk (Below.trod laid_out (by kernel_rfl) (of_decide_eq_true (by kernel_rfl)) k0 bel lt0) trodAll_mk0), rfl, bel.frame _, fun h => by cases h⟩

theorem FnSearch_holds : Rows.FnSearchSaid :=
  OpenClaim.holds_of_wide 4 Try.f4 rfl rfl rfl rfl rfl rfl rfl ⟨rfl, rfl, rfl, rfl, rfl⟩ rfl rfl rfl rfl rfl (by kernel_rfl) Try.func4 (by kernel_rfl)
    (of_decide_eq_true (by kernel_rfl)) (by unfold Func.isWrapper; first | (rw [if_pos (by decide +kernel)]; kernel_rfl) | (rw [if_neg (by decide +kernel)]; exact ⟨rfl, rfl⟩))
    (fun os started H enc _ => lifted_FnSearch os started H enc)

end Go.Proofs.Ytidmbeeadbedaaa
