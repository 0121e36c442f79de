/- For every input the law FnProofs returns true and leaves its argument as it was. No condition. -/
import Derived.Test.YtidmbeeadbedaaaMg13
import Derived.Test.YtidmbeeadbedaaaMkC2
import Derived.Test.YtidmbeeadbedaaaMg19
import Derived.Test.YtidmbeeadbedaaaMg16
namespace Go.Proofs.Ytidmbeeadbedaaa
open Go.ChangeShapes Go.WideShapes Go.ChangeAt Go.RowKit Go.Shelf

set_option maxRecDepth 100000 in
set_option maxHeartbeats 40000000 in
theorem law_FnProofs (w : World) (A0 : Option Addr) (n0 c0 : Nat) (zs : List Int) (R0 : Rd w A0 (u8c zs) ∧ n0 = zs.length ∧ n0 ≤ maxLen ∧ ∀ z ∈ zs, (Lit.int .u8 z).wf = true) :
    Calls Try.prog 3 #[.slice A0 n0 c0] w (Kept w (.bool true)) := by
  obtain ⟨hr, hn, hm0, hwf⟩ := R0
  have hz : ∀ z ∈ zs, 0 ≤ z ∧ z ≤ 255 := fun z h => byte_wf (hwf z h)
  unfold maxLen at hm0
  by_cases hb : n0 ≤ 1048576
  rotate_left
  · have hbi : (1048576 : Int) < (n0 : Int) := by omega
    go_enter Try.func3, Try.ntmps3
    go_wp2_with fail
    go_ret
    exact ⟨rfl, Below.refl _ _⟩
  have hMk : Calls Try.prog 9 #[.slice A0 n0 c0, .int .i64 0] w _ := makeChain_any A0 n0 c0 zs 0 w hr hn hb hz (by omega)
  clear hr hn hz hwf hm0
  have HMk := Lib.hid hMk
  clear hMk
  go_enter Try.func3, Try.ntmps3
  go_wp2_with fail
  with_reducible refine HMk.out.mono ?_
  rintro e w1 ⟨l, B, k, d, rs, s, C, m, ce, ls, hsy, hk, hw, hco, hm, hm24, rfl, hO, hO2, b1⟩
  have hin := sys_in hsy
  have hkb : k ≤ 1048576 := by omega
  have hro := sys_rules hsy
  have hzs := sys_sizes hro
  have hs16 := (wordOk_out hw).2.2.1
  have hsb : s.size ≤ 1048576 := by omega
  have hmb : m ≤ 1048576 := by omega
  have hrd := Rd.of_own hO
  have hrc := Rd.of_own hO2
  clear hO hO2 HMk hin
  obtain ⟨ec, hch, -⟩ := co_chn hro hco
  obtain ⟨V, hV⟩ : ∃ V, V = coL l rs s ls := ⟨_, rfl⟩
  have hT : V.length = m + 1 := by rw [hV, hch.len, hm]
  obtain ⟨sl, hsl⟩ : ∃ z, z = shpL l rs s ls := ⟨_, rfl⟩
  obtain ⟨V2, hc2, hdist, hsm⟩ := short_good2 hro hch hco (by omega)
  have hpk := pk_nat hco
  rw [← hV] at hch hpk
  rw [← hsl] at hc2 hsm
  obtain ⟨pk, hpke⟩ : ∃ z, z = pkTo V V.length := ⟨_, rfl⟩
  have hpkl : pk < m + 1 := by rw [hpke, ← hT]; exact pkTo_lt V _ (Nat.le_refl _) (by omega)
  have hpkm : ∀ i, i < V.length → lessW (V.getD pk ⟨#[]⟩) (V.getD i ⟨#[]⟩) = false := fun i hi => by rw [hpke]; exact pk_max V _ i hi
  rw [← hpke] at hpk
  obtain ⟨P, hP⟩ : ∃ z, z = sl.length := ⟨_, rfl⟩
  rw [← hP, ← hm] at hsm
  have hT2 : V2.length = P + 1 := by rw [hc2.len, ← hP]
  obtain ⟨v1, v2⟩ := hch.word hro hw
  have hecb : ec.size ≤ 1048576 := by have := (wordOk_out v1).2.2.1; omega
  have hVb : ∀ v ∈ V, v.size ≤ 1048576 := fun v hv => by have := (wordOk_out (v2 v hv)).2.2.1; omega
  have hlast : V[m]? = some ec := by have := hch.last; rwa [← hm] at this
  have f1 : prOk l rs s ec ls = true := (chn_co hro hch (by omega)).2.2
  have f2 : prOk l rs ec s (turnL ls) = true := (chn_co hro (hch.turn hs16) (by rw [turnL_len]; omega)).2.2
  obtain ⟨f3, f4, f5⟩ := chn_co hro hc2 (by omega)
  have ftl : m = (turnL ls).length := by rw [turnL_len]; exact hm
  have fbk := back_turn ls
  have ffd := @found_good l rs s ec
  have fnf := fun h1 h2 => not_found (l := l) hsy hch hw h1 h2
  have ft1 : takesOk l rs s = true := takes_mk hsy hw
  have ft2 : takesOk l rs ec = true := takes_mk hsy v1
  have hdist2 : ∀ i j (hi : i < V2.length) (hj : j < i), (V2[i] : ByteArray) ≠ V2[j]'(by omega) := fun i j hi hj => by
    have := hdist j i hj hi
    rw [wAt_lt hi, wAt_lt (by omega)] at this
    exact this
  rw [← hm] at fbk
  clear hdist hpke v1 v2 hch hc2
  have Hk := Lib.hid hk
  clear hk
  have Hzs := Lib.hid hzs
  clear hzs
  have Hro := Lib.hid hro
  clear hro
  have Hrd := Lib.hid hrd
  clear hrd
  have Hrc := Lib.hid hrc
  clear hrc
  have B1 := Lib.hid b1
  clear b1
  have Hsy := Lib.hid hsy
  clear hsy
  have Hw := Lib.hid hw
  clear hw
  have Hco := Lib.hid hco
  clear hco
  have Hm := Lib.hid hm
  clear hm
  have HV := Lib.hid hV
  clear hV
  have HT := Lib.hid hT
  clear hT
  have Hsl := Lib.hid hsl
  clear hsl
  have Hpk := Lib.hid hpk
  clear hpk
  have Hpkm := Lib.hid hpkm
  clear hpkm
  have HP := Lib.hid hP
  clear hP
  have HT2 := Lib.hid hT2
  clear hT2
  have HVb := Lib.hid hVb
  clear hVb
  have Hlast := Lib.hid hlast
  clear hlast
  have F1 := Lib.hid f1
  clear f1
  have F2 := Lib.hid f2
  clear f2
  have F3 := Lib.hid f3
  clear f3
  have F4 := Lib.hid f4
  clear f4
  have F5 := Lib.hid f5
  clear f5
  have Ftl := Lib.hid ftl
  clear ftl
  have Fbk := Lib.hid fbk
  clear fbk
  have Ffd := Lib.hid ffd
  clear ffd
  have Fnf := Lib.hid fnf
  clear fnf
  have Ft1 := Lib.hid ft1
  clear ft1
  have Ft2 := Lib.hid ft2
  clear ft2
  have Hdist2 := Lib.hid hdist2
  clear hdist2
  have bb := (Below.refl w1.heap.size w1).alloc (Nat.le_refl _) (.cells #[.int .i64 l, .slice B k d] 25)
  have hNB := Bk.new w1 25 #[.int .i64 l, .slice B k d]
  go_wp2_with fail
  obtain ⟨b_s, hbn⟩ : ∃ z, z = w1.heap.size := ⟨_, rfl⟩
  obtain ⟨w2, hwn⟩ : ∃ z, z = w1.alloc (.cells #[.int .i64 l, .slice B k d] 25) := ⟨_, rfl⟩
  rw [← hwn] at bb
  rw [← hbn, ← hwn] at hNB
  rw [← hwn]
  try rw [← hbn]
  have HR_s_2 := Lib.hid (Hrd.out.keep bb)
  clear Hrd
  have HR_C_2 := Lib.hid (Hrc.out.keep bb)
  clear Hrc
  have HL_2 := Lib.hid (B1.out.trans (bb.mono B1.out.size))
  clear B1
  have HB_s_2 := Lib.hid hNB
  clear hNB bb
  have Hbn_s := Lib.hid hbn
  clear hbn hwn
  have c_s_0 : w2.cell? ⟨b_s, 0, none⟩ = some (.int .i64 l) := by rw [HB_s_2.out.cell]; rfl
  have c_s_1 : w2.cell? ⟨b_s, 1, none⟩ = some (.slice B k d) := by rw [HB_s_2.out.cell]; rfl
  have l_s := HB_s_2.out.lt
  (try go_wp2_with fail)
  with_reducible refine (implChainOf_any l B k d rs s C m ce ls _ HR_s_2.out Hk.out hkb Hzs.out hsb HR_C_2.out Hm.out hmb).mono ?_
  rintro e w3 ⟨D, dd, rfl, hOV, bb⟩
  clear c_s_0 c_s_1 l_s
  have HB_s_3 := Lib.hid (HB_s_2.out.below bb HB_s_2.out.lt)
  clear HB_s_2
  have HR_s_3 := Lib.hid (HR_s_2.out.keep bb)
  clear HR_s_2
  have HR_C_3 := Lib.hid (HR_C_2.out.keep bb)
  clear HR_C_2
  have HL_3 := Lib.hid (HL_2.out.trans (bb.mono HL_2.out.size))
  clear HL_2
  clear bb
  have c_s_0 : w3.cell? ⟨b_s, 0, none⟩ = some (.int .i64 l) := by rw [HB_s_3.out.cell]; rfl
  have c_s_1 : w3.cell? ⟨b_s, 1, none⟩ = some (.slice B k d) := by rw [HB_s_3.out.cell]; rfl
  have l_s := HB_s_3.out.lt
  rw [← HV.out, HT.out] at hOV
  rw [← HV.out, HT.out, Hco.out]
  have hRV := Rd.of_own hOV
  obtain ⟨bl, off, rfl⟩ := rd_some hRV (by rw [strs_len, HT.out]; omega)
  clear hOV
  have HRV := Lib.hid hRV
  clear hRV
  (try go_wp2_with fail)
  with_reducible refine (implShortenProof_any l B k d rs s C m ce ls _ HR_s_3.out Hk.out hkb Hzs.out hsb HR_C_3.out Hm.out hmb).mono ?_
  rintro e w4 ⟨C2, c2, rfl, hO2, bb⟩
  clear c_s_0 c_s_1 l_s
  have HB_s_4 := Lib.hid (HB_s_3.out.below bb HB_s_3.out.lt)
  clear HB_s_3
  have HR_s_4 := Lib.hid (HR_s_3.out.keep bb)
  clear HR_s_3
  have HR_C_4 := Lib.hid (HR_C_3.out.keep bb)
  clear HR_C_3
  have HR_V_4 := Lib.hid (HRV.out.keep bb)
  clear HRV
  have HL_4 := Lib.hid (HL_3.out.trans (bb.mono HL_3.out.size))
  clear HL_3
  clear bb
  have c_s_0 : w4.cell? ⟨b_s, 0, none⟩ = some (.int .i64 l) := by rw [HB_s_4.out.cell]; rfl
  have c_s_1 : w4.cell? ⟨b_s, 1, none⟩ = some (.slice B k d) := by rw [HB_s_4.out.cell]; rfl
  have l_s := HB_s_4.out.lt
  rw [← Hsl.out, ← HP.out] at hO2
  rw [← Hsl.out, ← HP.out, shpOk, Hco.out]
  have hR2 := Rd.of_own hO2
  clear hO2
  have HR2 := Lib.hid hR2
  clear hR2
  (try go_wp2_with fail)
  with_reducible refine (implPeakOf_any l B k d rs s C m ce ls _ HR_s_4.out Hk.out hkb Hzs.out hsb HR_C_4.out Hm.out hmb).mono ?_
  rintro e w5 ⟨rfl, bb⟩
  clear c_s_0 c_s_1 l_s
  have HB_s_5 := Lib.hid (HB_s_4.out.below bb HB_s_4.out.lt)
  clear HB_s_4
  have HR_s_5 := Lib.hid (HR_s_4.out.keep bb)
  clear HR_s_4
  have HR_C_5 := Lib.hid (HR_C_4.out.keep bb)
  clear HR_C_4
  have HR_V_5 := Lib.hid (HR_V_4.out.keep bb)
  clear HR_V_4
  have HR_D_5 := Lib.hid (HR2.out.keep bb)
  clear HR2
  have HL_5 := Lib.hid (HL_4.out.trans (bb.mono HL_4.out.size))
  clear HL_4
  clear bb
  have c_s_0 : w5.cell? ⟨b_s, 0, none⟩ = some (.int .i64 l) := by rw [HB_s_5.out.cell]; rfl
  have c_s_1 : w5.cell? ⟨b_s, 1, none⟩ = some (.slice B k d) := by rw [HB_s_5.out.cell]; rfl
  have l_s := HB_s_5.out.lt
  rw [Hpk.out, Hco.out]
  have hp0 : ¬ (pk : Int) < 0 := by omega
  have hp1 : ¬ (m : Int) + 1 ≤ (pk : Int) := by omega
  have hp2 : (pk : Int) < (m : Int) + 1 := by omega
  have hm1 : (m : Int) + 1 - 1 = (m : Int) := by omega
  have hmm : (m : Int) < (m : Int) + 1 := by omega
  have hPm : ¬ (m : Int) < (P : Int) := by omega
  have hcl := rd_get HR_V_5.out (show (strs V)[m]? = some (.string ec) by simp [strs, Hlast.out])
  go_wp2_with fail
  clear hcl
  refine wp_region_held_drew (S := (fun W => W.cell? ⟨b_s, 0, none⟩ = some (.int .i64 l) ∧ W.cell? ⟨b_s, 1, none⟩ = some (.slice B k d))) (by kernel_rfl) ((by exact ⟨c_s_0, c_s_1⟩)) (fun hHeld => ?_)
  have hw0 := (Below.refl w5.heap.size w5).drew
  refine wpAnyH_take (i := 0) (oi := ?oi239) (v := ?val239) ?hi239 ?hs239 ?hf239 ?hr239 ?hQ239 ?hy239 ?hS239 ?hrest239
  case hi239 => (simp only [List.getElem?_toArray, List.getElem?_cons_succ, List.getElem?_cons_zero] <;> exact rfl)
  case hs239 => kernel_rfl
  case hf239 => kernel_rfl
  case hr239 => kernel_rfl
  case hQ239 => exact fun _ _ _ h => h
  case hS239 => assumption
  case hy239 => (refine Or.inl ⟨by rfl, ?_⟩; intro w hSw; (try dsimp only at hSw); obtain ⟨z0, z1⟩ := hSw; go_simp; try with_reducible rfl)
  simp only [Act.put, List.setIfInBounds_toArray, List.set_cons_zero, List.set_cons_succ]
  refine wpAnyH_take (i := 1) (oi := ?oi248) (v := ?val248) ?hi248 ?hs248 ?hf248 ?hr248 ?hQ248 ?hy248 ?hS248 ?hrest248
  case hi248 => (simp only [List.getElem?_toArray, List.getElem?_cons_succ, List.getElem?_cons_zero] <;> exact rfl)
  case hs248 => kernel_rfl
  case hf248 => kernel_rfl
  case hr248 => kernel_rfl
  case hQ248 => exact fun _ _ _ h => h
  case hS248 => assumption
  case hy248 => (refine Or.inl ⟨by rfl, ?_⟩; intro w hSw; (try dsimp only at hSw); obtain ⟨z0, z1⟩ := hSw; go_simp; try with_reducible rfl)
  simp only [Act.put, List.setIfInBounds_toArray, List.set_cons_zero, List.set_cons_succ]
  refine wpAnyH_take (i := 2) (oi := ?oi257) (v := ?val257) ?hi257 ?hs257 ?hf257 ?hr257 ?hQ257 ?hy257 ?hS257 ?hrest257
  case hi257 => (simp only [List.getElem?_toArray, List.getElem?_cons_succ, List.getElem?_cons_zero] <;> exact rfl)
  case hs257 => kernel_rfl
  case hf257 => kernel_rfl
  case hr257 => kernel_rfl
  case hQ257 => exact fun _ _ _ h => h
  case hS257 => assumption
  case hy257 => (refine Or.inl ⟨by rfl, ?_⟩; intro w hSw; (try dsimp only at hSw); obtain ⟨z0, z1⟩ := hSw; go_simp; try with_reducible rfl)
  simp only [Act.put, List.setIfInBounds_toArray, List.set_cons_zero, List.set_cons_succ]
  refine wpAnyH_take (i := 3) (oi := ?oi266) (v := ?val266) ?hi266 ?hs266 ?hf266 ?hr266 ?hQ266 ?hy266 ?hS266 ?hrest266
  case hi266 => (simp only [List.getElem?_toArray, List.getElem?_cons_succ, List.getElem?_cons_zero] <;> exact rfl)
  case hs266 => kernel_rfl
  case hf266 => kernel_rfl
  case hr266 => kernel_rfl
  case hQ266 => exact fun _ _ _ h => h
  case hS266 => assumption
  case hy266 => (refine Or.inl ⟨by rfl, ?_⟩; intro w hSw; (try dsimp only at hSw); obtain ⟨z0, z1⟩ := hSw; go_simp; try with_reducible rfl)
  simp only [Act.put, List.setIfInBounds_toArray, List.set_cons_zero, List.set_cons_succ]
  refine wpAnyH_ready (rs := [4]) (by kernel_rfl) (by simp) ?_
  refine AllReadyH.cons rfl (fun K hK => ?_) AllReadyH.nil
  (go_simp; (with_reducible refine (implIsProof_any l B k d rs s ec C m ce ls _ (HR_s_5.out.keep hw0) Hk.out hkb Hzs.out hsb hecb (HR_C_5.out.keep hw0) Hm.out hmb).mono ?_); rintro e y1 ⟨rfl, bb⟩; have hw1 := hw0.trans (bb.mono hw0.size); rw [F1.out]; clear bb; have hQ1 := HB_s_5.out.below hw1 HB_s_5.out.lt)
  refine hK.out _ _ ((by exact ⟨by rw [hQ1.cell]; rfl, by rw [hQ1.cell]; rfl⟩)) (fun hHeld2 => ?_)
  clear hK K hHeld
  have hHeld := hHeld2
  clear hHeld2
  first | simp only [Act.put, List.setIfInBounds_toArray, List.set_cons_zero, List.set_cons_succ] | skip
  refine wpAnyH_take (i := 5) (oi := ?oi283) (v := ?val283) ?hi283 ?hs283 ?hf283 ?hr283 ?hQ283 ?hy283 ?hS283 ?hrest283
  case hi283 => (simp only [List.getElem?_toArray, List.getElem?_cons_succ, List.getElem?_cons_zero] <;> exact rfl)
  case hs283 => kernel_rfl
  case hf283 => kernel_rfl
  case hr283 => kernel_rfl
  case hQ283 => exact fun _ _ _ h => h
  case hS283 => assumption
  case hy283 => (refine Or.inl ⟨by rfl, ?_⟩; intro w hSw; (try dsimp only at hSw); obtain ⟨z0, z1⟩ := hSw; go_simp; try with_reducible rfl)
  simp only [Act.put, List.setIfInBounds_toArray, List.set_cons_zero, List.set_cons_succ]
  refine wpAnyH_take (i := 6) (oi := ?oi292) (v := ?val292) ?hi292 ?hs292 ?hf292 ?hr292 ?hQ292 ?hy292 ?hS292 ?hrest292
  case hi292 => (simp only [List.getElem?_toArray, List.getElem?_cons_succ, List.getElem?_cons_zero] <;> exact rfl)
  case hs292 => kernel_rfl
  case hf292 => kernel_rfl
  case hr292 => kernel_rfl
  case hQ292 => exact fun _ _ _ h => h
  case hS292 => assumption
  case hy292 => (refine Or.inl ⟨by rfl, ?_⟩; intro w hSw; (try dsimp only at hSw); obtain ⟨z0, z1⟩ := hSw; go_simp; try with_reducible rfl)
  simp only [Act.put, List.setIfInBounds_toArray, List.set_cons_zero, List.set_cons_succ]
  refine wpAnyH_take (i := 7) (oi := ?oi301) (v := ?val301) ?hi301 ?hs301 ?hf301 ?hr301 ?hQ301 ?hy301 ?hS301 ?hrest301
  case hi301 => (simp only [List.getElem?_toArray, List.getElem?_cons_succ, List.getElem?_cons_zero] <;> exact rfl)
  case hs301 => kernel_rfl
  case hf301 => kernel_rfl
  case hr301 => kernel_rfl
  case hQ301 => exact fun _ _ _ h => h
  case hS301 => assumption
  case hy301 => (refine Or.inl ⟨by rfl, ?_⟩; intro w hSw; (try dsimp only at hSw); obtain ⟨z0, z1⟩ := hSw; go_simp; try with_reducible rfl)
  simp only [Act.put, List.setIfInBounds_toArray, List.set_cons_zero, List.set_cons_succ]
  refine wpAnyH_take (i := 8) (oi := ?oi310) (v := ?val310) ?hi310 ?hs310 ?hf310 ?hr310 ?hQ310 ?hy310 ?hS310 ?hrest310
  case hi310 => (simp only [List.getElem?_toArray, List.getElem?_cons_succ, List.getElem?_cons_zero] <;> exact rfl)
  case hs310 => kernel_rfl
  case hf310 => kernel_rfl
  case hr310 => kernel_rfl
  case hQ310 => exact fun _ _ _ h => h
  case hS310 => assumption
  case hy310 => (refine Or.inl ⟨by rfl, ?_⟩; intro w hSw; (try dsimp only at hSw); obtain ⟨z0, z1⟩ := hSw; go_simp; try with_reducible rfl)
  simp only [Act.put, List.setIfInBounds_toArray, List.set_cons_zero, List.set_cons_succ]
  refine wpAnyH_take (i := 9) (oi := ?oi319) (v := ?val319) ?hi319 ?hs319 ?hf319 ?hr319 ?hQ319 ?hy319 ?hS319 ?hrest319
  case hi319 => (simp only [List.getElem?_toArray, List.getElem?_cons_succ, List.getElem?_cons_zero] <;> exact rfl)
  case hs319 => kernel_rfl
  case hf319 => kernel_rfl
  case hr319 => kernel_rfl
  case hQ319 => exact fun _ _ _ h => h
  case hS319 => assumption
  case hy319 => (refine Or.inl ⟨by rfl, ?_⟩; intro w hSw; (try dsimp only at hSw); obtain ⟨z0, z1⟩ := hSw; go_simp; try with_reducible rfl)
  simp only [Act.put, List.setIfInBounds_toArray, List.set_cons_zero, List.set_cons_succ]
  refine wpAnyH_take (i := 10) (oi := ?oi328) (v := ?val328) ?hi328 ?hs328 ?hf328 ?hr328 ?hQ328 ?hy328 ?hS328 ?hrest328
  case hi328 => (simp only [List.getElem?_toArray, List.getElem?_cons_succ, List.getElem?_cons_zero] <;> exact rfl)
  case hs328 => kernel_rfl
  case hf328 => kernel_rfl
  case hr328 => kernel_rfl
  case hQ328 => exact fun _ _ _ h => h
  case hS328 => assumption
  case hy328 => (refine Or.inl ⟨by rfl, ?_⟩; intro w hSw; (try dsimp only at hSw); obtain ⟨z0, z1⟩ := hSw; go_simp; try with_reducible rfl)
  simp only [Act.put, List.setIfInBounds_toArray, List.set_cons_zero, List.set_cons_succ]
  refine wpAnyH_ready (rs := [11]) (by kernel_rfl) (by simp) ?_
  refine AllReadyH.cons rfl (fun K hK => ?_) AllReadyH.nil
  (go_simp; (with_reducible refine (implTurnProof_any C m ce ls _ (HR_C_5.out.keep hw1) Hm.out hmb).mono ?_); rintro e y2 ⟨E, ee, rfl, hOt, bb⟩; have hw2 := hw1.trans (bb.mono hw1.size); rw [← Ftl.out] at hOt; rw [← Ftl.out]; have hRt := Rd.of_own hOt; clear hOt bb; have hQ2 := HB_s_5.out.below hw2 HB_s_5.out.lt)
  refine hK.out _ _ ((by exact ⟨by rw [hQ2.cell]; rfl, by rw [hQ2.cell]; rfl⟩)) (fun hHeld2 => ?_)
  clear hK K hHeld
  have hHeld := hHeld2
  clear hHeld2
  first | simp only [Act.put, List.setIfInBounds_toArray, List.set_cons_zero, List.set_cons_succ] | skip
  refine wpAnyH_ready (rs := [12]) (by kernel_rfl) (by simp) ?_
  refine AllReadyH.cons rfl (fun K hK => ?_) AllReadyH.nil
  (go_simp; (with_reducible refine (implIsProof_any l B k d rs ec s E m ee (turnL ls) _ (HR_s_5.out.keep hw2) Hk.out hkb Hzs.out hecb hsb hRt Ftl.out hmb).mono ?_); rintro e y3 ⟨rfl, bb⟩; have hw3 := hw2.trans (bb.mono hw2.size); rw [F2.out]; clear bb; have hQ3 := HB_s_5.out.below hw3 HB_s_5.out.lt)
  refine hK.out _ _ ((by exact ⟨by rw [hQ3.cell]; rfl, by rw [hQ3.cell]; rfl⟩)) (fun hHeld2 => ?_)
  clear hK K hHeld
  have hHeld := hHeld2
  clear hHeld2
  first | simp only [Act.put, List.setIfInBounds_toArray, List.set_cons_zero, List.set_cons_succ] | skip
  refine wpAnyH_take (i := 13) (oi := ?oi353) (v := ?val353) ?hi353 ?hs353 ?hf353 ?hr353 ?hQ353 ?hy353 ?hS353 ?hrest353
  case hi353 => (simp only [List.getElem?_toArray, List.getElem?_cons_succ, List.getElem?_cons_zero] <;> exact rfl)
  case hs353 => kernel_rfl
  case hf353 => kernel_rfl
  case hr353 => kernel_rfl
  case hQ353 => exact fun _ _ _ h => h
  case hS353 => assumption
  case hy353 => (refine Or.inl ⟨by rfl, ?_⟩; intro w hSw; (try dsimp only at hSw); obtain ⟨z0, z1⟩ := hSw; go_simp; try with_reducible rfl)
  simp only [Act.put, List.setIfInBounds_toArray, List.set_cons_zero, List.set_cons_succ]
  refine wpAnyH_take (i := 14) (oi := ?oi362) (v := ?val362) ?hi362 ?hs362 ?hf362 ?hr362 ?hQ362 ?hy362 ?hS362 ?hrest362
  case hi362 => (simp only [List.getElem?_toArray, List.getElem?_cons_succ, List.getElem?_cons_zero] <;> exact rfl)
  case hs362 => kernel_rfl
  case hf362 => kernel_rfl
  case hr362 => kernel_rfl
  case hQ362 => exact fun _ _ _ h => h
  case hS362 => assumption
  case hy362 => (refine Or.inl ⟨by rfl, ?_⟩; intro w hSw; (try dsimp only at hSw); obtain ⟨z0, z1⟩ := hSw; go_simp; try with_reducible rfl)
  simp only [Act.put, List.setIfInBounds_toArray, List.set_cons_zero, List.set_cons_succ]
  refine wpAnyH_take (i := 15) (oi := ?oi371) (v := ?val371) ?hi371 ?hs371 ?hf371 ?hr371 ?hQ371 ?hy371 ?hS371 ?hrest371
  case hi371 => (simp only [List.getElem?_toArray, List.getElem?_cons_succ, List.getElem?_cons_zero] <;> exact rfl)
  case hs371 => kernel_rfl
  case hf371 => kernel_rfl
  case hr371 => kernel_rfl
  case hQ371 => exact fun _ _ _ h => h
  case hS371 => assumption
  case hy371 => (refine Or.inl ⟨by rfl, ?_⟩; intro w hSw; (try dsimp only at hSw); obtain ⟨z0, z1⟩ := hSw; go_simp; try with_reducible rfl)
  simp only [Act.put, List.setIfInBounds_toArray, List.set_cons_zero, List.set_cons_succ]
  refine wpAnyH_take (i := 16) (oi := ?oi380) (v := ?val380) ?hi380 ?hs380 ?hf380 ?hr380 ?hQ380 ?hy380 ?hS380 ?hrest380
  case hi380 => (simp only [List.getElem?_toArray, List.getElem?_cons_succ, List.getElem?_cons_zero] <;> exact rfl)
  case hs380 => kernel_rfl
  case hf380 => kernel_rfl
  case hr380 => kernel_rfl
  case hQ380 => exact fun _ _ _ h => h
  case hS380 => assumption
  case hy380 => (refine Or.inl ⟨by rfl, ?_⟩; intro w hSw; (try dsimp only at hSw); obtain ⟨z0, z1⟩ := hSw; go_simp; try with_reducible rfl)
  simp only [Act.put, List.setIfInBounds_toArray, List.set_cons_zero, List.set_cons_succ]
  refine wpAnyH_take (i := 17) (oi := ?oi389) (v := ?val389) ?hi389 ?hs389 ?hf389 ?hr389 ?hQ389 ?hy389 ?hS389 ?hrest389
  case hi389 => (simp only [List.getElem?_toArray, List.getElem?_cons_succ, List.getElem?_cons_zero] <;> exact rfl)
  case hs389 => kernel_rfl
  case hf389 => kernel_rfl
  case hr389 => kernel_rfl
  case hQ389 => exact fun _ _ _ h => h
  case hS389 => assumption
  case hy389 => (refine Or.inl ⟨by rfl, ?_⟩; intro w hSw; (try dsimp only at hSw); obtain ⟨z0, z1⟩ := hSw; go_simp; try with_reducible rfl)
  simp only [Act.put, List.setIfInBounds_toArray, List.set_cons_zero, List.set_cons_succ]
  refine wpAnyH_take (i := 18) (oi := ?oi398) (v := ?val398) ?hi398 ?hs398 ?hf398 ?hr398 ?hQ398 ?hy398 ?hS398 ?hrest398
  case hi398 => (simp only [List.getElem?_toArray, List.getElem?_cons_succ, List.getElem?_cons_zero] <;> exact rfl)
  case hs398 => kernel_rfl
  case hf398 => kernel_rfl
  case hr398 => kernel_rfl
  case hQ398 => exact fun _ _ _ h => h
  case hS398 => assumption
  case hy398 => (refine Or.inl ⟨by rfl, ?_⟩; intro w hSw; (try dsimp only at hSw); obtain ⟨z0, z1⟩ := hSw; go_simp; try with_reducible rfl)
  simp only [Act.put, List.setIfInBounds_toArray, List.set_cons_zero, List.set_cons_succ]
  refine wpAnyH_take (i := 19) (oi := ?oi407) (v := ?val407) ?hi407 ?hs407 ?hf407 ?hr407 ?hQ407 ?hy407 ?hS407 ?hrest407
  case hi407 => (simp only [List.getElem?_toArray, List.getElem?_cons_succ, List.getElem?_cons_zero] <;> exact rfl)
  case hs407 => kernel_rfl
  case hf407 => kernel_rfl
  case hr407 => kernel_rfl
  case hQ407 => exact fun _ _ _ h => h
  case hS407 => assumption
  case hy407 => (refine Or.inl ⟨by rfl, ?_⟩; intro w hSw; (try dsimp only at hSw); obtain ⟨z0, z1⟩ := hSw; go_simp; try with_reducible rfl)
  simp only [Act.put, List.setIfInBounds_toArray, List.set_cons_zero, List.set_cons_succ]
  refine wpAnyH_ready (rs := [20]) (by kernel_rfl) (by simp) ?_
  refine AllReadyH.cons rfl (fun K hK => ?_) AllReadyH.nil
  (go_simp; (with_reducible refine (implIsProof_any l B k d rs s ec C2 P c2 sl _ (HR_s_5.out.keep hw3) Hk.out hkb Hzs.out hsb hecb (HR_D_5.out.keep hw3) HP.out (by omega)).mono ?_); rintro e y4 ⟨rfl, bb⟩; have hw4 := hw3.trans (bb.mono hw3.size); rw [F5.out]; clear bb; have hQ4 := HB_s_5.out.below hw4 HB_s_5.out.lt)
  refine hK.out _ _ ((by exact ⟨by rw [hQ4.cell]; rfl, by rw [hQ4.cell]; rfl⟩)) (fun hHeld2 => ?_)
  clear hK K hHeld
  have hHeld := hHeld2
  clear hHeld2
  first | simp only [Act.put, List.setIfInBounds_toArray, List.set_cons_zero, List.set_cons_succ] | skip
  refine wpAnyH_take (i := 21) (oi := ?oi424) (v := ?val424) ?hi424 ?hs424 ?hf424 ?hr424 ?hQ424 ?hy424 ?hS424 ?hrest424
  case hi424 => (simp only [List.getElem?_toArray, List.getElem?_cons_succ, List.getElem?_cons_zero] <;> exact rfl)
  case hs424 => kernel_rfl
  case hf424 => kernel_rfl
  case hr424 => kernel_rfl
  case hQ424 => exact fun _ _ _ h => h
  case hS424 => assumption
  case hy424 => (refine Or.inl ⟨by rfl, ?_⟩; intro w hSw; (try dsimp only at hSw); obtain ⟨z0, z1⟩ := hSw; go_simp; try with_reducible rfl)
  simp only [Act.put, List.setIfInBounds_toArray, List.set_cons_zero, List.set_cons_succ]
  refine wpAnyH_take (i := 22) (oi := ?oi433) (v := ?val433) ?hi433 ?hs433 ?hf433 ?hr433 ?hQ433 ?hy433 ?hS433 ?hrest433
  case hi433 => (simp only [List.getElem?_toArray, List.getElem?_cons_succ, List.getElem?_cons_zero] <;> exact rfl)
  case hs433 => kernel_rfl
  case hf433 => kernel_rfl
  case hr433 => kernel_rfl
  case hQ433 => exact fun _ _ _ h => h
  case hS433 => assumption
  case hy433 => (refine Or.inl ⟨by rfl, ?_⟩; intro w hSw; (try dsimp only at hSw); obtain ⟨z0, z1⟩ := hSw; go_simp; try with_reducible rfl)
  simp only [Act.put, List.setIfInBounds_toArray, List.set_cons_zero, List.set_cons_succ]
  refine wpAnyH_take (i := 23) (oi := ?oi442) (v := ?val442) ?hi442 ?hs442 ?hf442 ?hr442 ?hQ442 ?hy442 ?hS442 ?hrest442
  case hi442 => (simp only [List.getElem?_toArray, List.getElem?_cons_succ, List.getElem?_cons_zero] <;> exact rfl)
  case hs442 => kernel_rfl
  case hf442 => kernel_rfl
  case hr442 => kernel_rfl
  case hQ442 => exact fun _ _ _ h => h
  case hS442 => assumption
  case hy442 => (refine Or.inl ⟨by rfl, ?_⟩; intro w hSw; (try dsimp only at hSw); obtain ⟨z0, z1⟩ := hSw; go_simp; try with_reducible rfl)
  simp only [Act.put, List.setIfInBounds_toArray, List.set_cons_zero, List.set_cons_succ]
  refine wpAnyH_take (i := 24) (oi := ?oi451) (v := ?val451) ?hi451 ?hs451 ?hf451 ?hr451 ?hQ451 ?hy451 ?hS451 ?hrest451
  case hi451 => (simp only [List.getElem?_toArray, List.getElem?_cons_succ, List.getElem?_cons_zero] <;> exact rfl)
  case hs451 => kernel_rfl
  case hf451 => kernel_rfl
  case hr451 => kernel_rfl
  case hQ451 => exact fun _ _ _ h => h
  case hS451 => assumption
  case hy451 => (refine Or.inl ⟨by rfl, ?_⟩; intro w hSw; (try dsimp only at hSw); obtain ⟨z0, z1⟩ := hSw; go_simp; try with_reducible rfl)
  simp only [Act.put, List.setIfInBounds_toArray, List.set_cons_zero, List.set_cons_succ]
  refine wpAnyH_take (i := 25) (oi := ?oi460) (v := ?val460) ?hi460 ?hs460 ?hf460 ?hr460 ?hQ460 ?hy460 ?hS460 ?hrest460
  case hi460 => (simp only [List.getElem?_toArray, List.getElem?_cons_succ, List.getElem?_cons_zero] <;> exact rfl)
  case hs460 => kernel_rfl
  case hf460 => kernel_rfl
  case hr460 => kernel_rfl
  case hQ460 => exact fun _ _ _ h => h
  case hS460 => assumption
  case hy460 => (refine Or.inl ⟨by rfl, ?_⟩; intro w hSw; (try dsimp only at hSw); obtain ⟨z0, z1⟩ := hSw; go_simp; try with_reducible rfl)
  simp only [Act.put, List.setIfInBounds_toArray, List.set_cons_zero, List.set_cons_succ]
  refine wpAnyH_take (i := 26) (oi := ?oi469) (v := ?val469) ?hi469 ?hs469 ?hf469 ?hr469 ?hQ469 ?hy469 ?hS469 ?hrest469
  case hi469 => (simp only [List.getElem?_toArray, List.getElem?_cons_succ, List.getElem?_cons_zero] <;> exact rfl)
  case hs469 => kernel_rfl
  case hf469 => kernel_rfl
  case hr469 => kernel_rfl
  case hQ469 => exact fun _ _ _ h => h
  case hS469 => assumption
  case hy469 => (refine Or.inl ⟨by rfl, ?_⟩; intro w hSw; (try dsimp only at hSw); obtain ⟨z0, z1⟩ := hSw; go_simp; try with_reducible rfl)
  simp only [Act.put, List.setIfInBounds_toArray, List.set_cons_zero, List.set_cons_succ]
  refine wpAnyH_take (i := 27) (oi := ?oi478) (v := ?val478) ?hi478 ?hs478 ?hf478 ?hr478 ?hQ478 ?hy478 ?hS478 ?hrest478
  case hi478 => (simp only [List.getElem?_toArray, List.getElem?_cons_succ, List.getElem?_cons_zero] <;> exact rfl)
  case hs478 => kernel_rfl
  case hf478 => kernel_rfl
  case hr478 => kernel_rfl
  case hQ478 => exact fun _ _ _ h => h
  case hS478 => assumption
  case hy478 => (refine Or.inl ⟨by rfl, ?_⟩; intro w hSw; (try dsimp only at hSw); obtain ⟨z0, z1⟩ := hSw; go_simp; try with_reducible rfl)
  simp only [Act.put, List.setIfInBounds_toArray, List.set_cons_zero, List.set_cons_succ]
  refine wpAnyH_take (i := 28) (oi := ?oi487) (v := ?val487) ?hi487 ?hs487 ?hf487 ?hr487 ?hQ487 ?hy487 ?hS487 ?hrest487
  case hi487 => (simp only [List.getElem?_toArray, List.getElem?_cons_succ, List.getElem?_cons_zero] <;> exact rfl)
  case hs487 => kernel_rfl
  case hf487 => kernel_rfl
  case hr487 => kernel_rfl
  case hQ487 => exact fun _ _ _ h => h
  case hS487 => assumption
  case hy487 => (refine Or.inl ⟨by rfl, ?_⟩; intro w hSw; (try dsimp only at hSw); obtain ⟨z0, z1⟩ := hSw; go_simp; try with_reducible rfl)
  simp only [Act.put, List.setIfInBounds_toArray, List.set_cons_zero, List.set_cons_succ]
  refine wpAnyH_take (i := 29) (oi := ?oi496) (v := ?val496) ?hi496 ?hs496 ?hf496 ?hr496 ?hQ496 ?hy496 ?hS496 ?hrest496
  case hi496 => (simp only [List.getElem?_toArray, List.getElem?_cons_succ, List.getElem?_cons_zero] <;> exact rfl)
  case hs496 => kernel_rfl
  case hf496 => kernel_rfl
  case hr496 => kernel_rfl
  case hQ496 => exact fun _ _ _ h => h
  case hS496 => assumption
  case hy496 => (refine Or.inl ⟨by rfl, ?_⟩; intro w hSw; (try dsimp only at hSw); obtain ⟨z0, z1⟩ := hSw; go_simp; try with_reducible rfl)
  simp only [Act.put, List.setIfInBounds_toArray, List.set_cons_zero, List.set_cons_succ]
  refine wpAnyH_done (by kernel_rfl) ?_ _
  clear hHeld hQ1 hQ2 hQ3 hQ4 hRt hw0 hw1 hw2 hw3
  clear c_s_0 c_s_1 l_s
  have HB_s_6 := Lib.hid (HB_s_5.out.below hw4 HB_s_5.out.lt)
  clear HB_s_5
  have HR_s_6 := Lib.hid (HR_s_5.out.keep hw4)
  clear HR_s_5
  have HR_C_6 := Lib.hid (HR_C_5.out.keep hw4)
  clear HR_C_5
  have HR_V_6 := Lib.hid (HR_V_5.out.keep hw4)
  clear HR_V_5
  have HR_D_6 := Lib.hid (HR_D_5.out.keep hw4)
  clear HR_D_5
  have HL_6 := Lib.hid (HL_5.out.trans (hw4.mono HL_5.out.size))
  clear HL_5
  clear hw4
  have c_s_0 : y4.cell? ⟨b_s, 0, none⟩ = some (.int .i64 l) := by rw [HB_s_6.out.cell]; rfl
  have c_s_1 : y4.cell? ⟨b_s, 1, none⟩ = some (.slice B k d) := by rw [HB_s_6.out.cell]; rfl
  have l_s := HB_s_6.out.lt
  (try go_wp2_with fail)
  with_reducible refine (implChainOf_any l B k d rs s C2 P c2 sl _ HR_s_6.out Hk.out hkb Hzs.out hsb HR_D_6.out HP.out (by omega)).mono ?_
  rintro e w7 ⟨D2, d2, rfl, hOW, bb⟩
  clear c_s_0 c_s_1 l_s
  have HB_s_7 := Lib.hid (HB_s_6.out.below bb HB_s_6.out.lt)
  clear HB_s_6
  have HR_s_7 := Lib.hid (HR_s_6.out.keep bb)
  clear HR_s_6
  have HR_C_7 := Lib.hid (HR_C_6.out.keep bb)
  clear HR_C_6
  have HR_V_7 := Lib.hid (HR_V_6.out.keep bb)
  clear HR_V_6
  have HR_D_7 := Lib.hid (HR_D_6.out.keep bb)
  clear HR_D_6
  have HL_7 := Lib.hid (HL_6.out.trans (bb.mono HL_6.out.size))
  clear HL_6
  clear bb
  have c_s_0 : w7.cell? ⟨b_s, 0, none⟩ = some (.int .i64 l) := by rw [HB_s_7.out.cell]; rfl
  have c_s_1 : w7.cell? ⟨b_s, 1, none⟩ = some (.slice B k d) := by rw [HB_s_7.out.cell]; rfl
  have l_s := HB_s_7.out.lt
  rw [F4.out, HT2.out] at hOW
  rw [F4.out, HT2.out, F3.out]
  have hRW := Rd.of_own hOW
  obtain ⟨bm, om, rfl⟩ := rd_some hRW (by rw [strs_len, HT2.out]; omega)
  have hcap : P + 1 ≤ d2 := (own_cap hOW).1
  clear hOW
  have HRW := Lib.hid hRW
  clear hRW
  go_wp2_with fail
  clear c_s_0 c_s_1 l_s
  clear HR_D_7
  have c_s_0 : w7.cell? ⟨b_s, 0, none⟩ = some (.int .i64 l) := by rw [HB_s_7.out.cell]; rfl
  have c_s_1 : w7.cell? ⟨b_s, 1, none⟩ = some (.slice B k d) := by rw [HB_s_7.out.cell]; rfl
  have l_s := HB_s_7.out.lt
  clear hp0 hp1 hm1 hmm hPm
  go_loopw [133] (fun i wr => ∃ q : Nat, i = .int .i64 q ∧ q ≤ P + 1 ∧ Hid (wr = w7)) (fun i _ => P + 1 - (intOf i).toNat)
  case atStart => exact ⟨0, rfl, Nat.zero_le _, rfl⟩
  case round =>
    obtain ⟨q, rfl, hq, hwr⟩ := hrel
    have hwr2 : w7 = wr := hwr.out.symm
    subst hwr2
    clear hwr
    by_cases hlt : q < P + 1
    · have hqV : q < V2.length := by rw [HT2.out]; exact hlt
      obtain ⟨x, hx⟩ : ∃ z, z = V2[q] := ⟨_, rfl⟩
      have hcx := rd_get HRW.out (strs_at hqV)
      rw [← hx] at hcx
      have hq1 : (q : Int) < (P : Int) + 1 := by omega
      have hq2 : (q : Int) ≤ (d2 : Int) := by omega
      have Hx := Lib.hid hx
      clear hx
      go_wp2_with fail
      go_loopw [142] (fun i wr => ∃ p : Nat, i = .int .i64 p ∧ p ≤ q ∧ Hid (wr = w7)) (fun i _ => q - (intOf i).toNat)
      case atStart => exact ⟨0, rfl, Nat.zero_le _, rfl⟩
      case round =>
        obtain ⟨p, rfl, hp, hwr⟩ := hrel
        have hwr2 : w7 = wr := hwr.out.symm
        subst hwr2
        clear hwr
        by_cases hltp : p < q
        · have hpV : p < V2.length := by omega
          obtain ⟨y, hy⟩ : ∃ z, z = V2[p] := ⟨_, rfl⟩
          have hcy := rd_get HRW.out (strs_at hpV)
          rw [← hy] at hcy
          have hne : (x.toList == y.toList) = false := by
            rw [beq_eq_false_iff_ne]
            intro e
            have h9 := ba_one e
            rw [Hx.out, hy] at h9
            exact Hdist2.out q p hqV hltp h9
          clear hy
          go_wp2_with fail
          go_roundw
          case rel => exact ⟨p + 1, by go_num, by omega, Lib.hid (by trivial)⟩
          case measure => simp [intOf] <;> omega
        · go_wp2_with fail
          go_roundw
          case rel => exact ⟨q + 1, by go_num, by omega, Lib.hid (by trivial)⟩
          case measure => simp [intOf] <;> omega
    · skip
      clear c_s_0 c_s_1 l_s
      clear HRW
      have c_s_0 : w7.cell? ⟨b_s, 0, none⟩ = some (.int .i64 l) := by rw [HB_s_7.out.cell]; rfl
      have c_s_1 : w7.cell? ⟨b_s, 1, none⟩ = some (.slice B k d) := by rw [HB_s_7.out.cell]; rfl
      have l_s := HB_s_7.out.lt
      go_wp2_with fail
      go_loopw [153] (fun i wr => ∃ q : Nat, i = .int .i64 q ∧ q ≤ m + 1 ∧ Hid (Bk wr b_s 25 #[.int .i64 l, .slice B k d]) ∧ Hid (Rd wr (some ⟨bl, off, none⟩) (strs V)) ∧ Hid (Rd wr B (cellsRule rs)) ∧ Hid (Rd wr C (cellsLink ls)) ∧ Hid (Below w.heap.size w wr)) (fun i _ => m + 1 - (intOf i).toNat)
      case atStart => exact ⟨0, rfl, Nat.zero_le _, HB_s_7, HR_V_7, HR_s_7, HR_C_7, HL_7⟩
      clear c_s_0 c_s_1 l_s
      case round =>
        clear hq hlt hcap HB_s_7 HR_V_7 HR_s_7 HR_C_7 HL_7
        obtain ⟨q, rfl, hq, HBs, HRV, HRs, HRC, HLw⟩ := hrel
        have c_s_0 : wr.cell? ⟨b_s, 0, none⟩ = some (.int .i64 l) := by rw [HBs.out.cell]; rfl
        have c_s_1 : wr.cell? ⟨b_s, 1, none⟩ = some (.slice B k d) := by rw [HBs.out.cell]; rfl
        have l_s := HBs.out.lt
        by_cases hlt : q < m + 1
        · skip
          have hqV : q < V.length := by rw [HT.out]; exact hlt
          have hkV : pk < V.length := by rw [HT.out]; exact hpkl
          obtain ⟨x, hx⟩ : ∃ z, z = V[q] := ⟨_, rfl⟩
          obtain ⟨y, hy⟩ : ∃ z, z = V[pk] := ⟨_, rfl⟩
          have hcx := rd_get HRV.out (strs_at hqV)
          have hcy := rd_get HRV.out (strs_at hkV)
          rw [← hx] at hcx
          rw [← hy] at hcy
          have hbx := HVb.out x (by rw [hx]; exact List.getElem_mem hqV)
          have hby := HVb.out y (by rw [hy]; exact List.getElem_mem hkV)
          have hle := Hpkm.out q hqV
          rw [List.getD_eq_getElem?_getD, List.getD_eq_getElem?_getD, List.getElem?_eq_getElem hqV, List.getElem?_eq_getElem hkV, Option.getD_some, Option.getD_some, ← hx, ← hy] at hle
          have hq1 : (q : Int) < (m : Int) + 1 := by omega
          clear hx hy hqV hkV
          have Hle := Lib.hid hle
          clear hle
          (try go_wp2_with fail)
          with_reducible refine (implLess_any y x _ (by omega) (by omega)).mono ?_
          rintro e w8 ⟨rfl, bb⟩
          clear c_s_0 c_s_1 l_s hcx hcy
          have HB_s_8 := Lib.hid (HBs.out.below bb HBs.out.lt)
          clear HBs
          have HR_s_8 := Lib.hid (HRs.out.keep bb)
          clear HRs
          have HR_C_8 := Lib.hid (HRC.out.keep bb)
          clear HRC
          have HR_V_8 := Lib.hid (HRV.out.keep bb)
          clear HRV
          have HL_8 := Lib.hid (HLw.out.trans (bb.mono HLw.out.size))
          clear HLw
          clear bb
          have c_s_0 : w8.cell? ⟨b_s, 0, none⟩ = some (.int .i64 l) := by rw [HB_s_8.out.cell]; rfl
          have c_s_1 : w8.cell? ⟨b_s, 1, none⟩ = some (.slice B k d) := by rw [HB_s_8.out.cell]; rfl
          have l_s := HB_s_8.out.lt
          rw [Hle.out]
          go_wp2_with fail
          go_roundw
          case rel => exact ⟨q + 1, by go_num, by omega, HB_s_8, HR_V_8, HR_s_8, HR_C_8, HL_8⟩
          case measure => simp [intOf] <;> omega
        · skip
          clear c_s_0 c_s_1 l_s
          clear HRV
          have c_s_0 : wr.cell? ⟨b_s, 0, none⟩ = some (.int .i64 l) := by rw [HBs.out.cell]; rfl
          have c_s_1 : wr.cell? ⟨b_s, 1, none⟩ = some (.slice B k d) := by rw [HBs.out.cell]; rfl
          have l_s := HBs.out.lt
          (try go_wp2_with fail)
          with_reducible refine (implProofOf_any l B k d rs s ec _ HRs.out Hk.out hkb Hzs.out hsb hecb).mono ?_
          rintro e w8 ⟨E3, e3, rfl, hO3, bb⟩
          clear c_s_0 c_s_1 l_s
          have HB_s_8 := Lib.hid (HBs.out.below bb HBs.out.lt)
          clear HBs
          have HR_s_8 := Lib.hid (HRs.out.keep bb)
          clear HRs
          have HR_C_8 := Lib.hid (HRC.out.keep bb)
          clear HRC
          have HL_8 := Lib.hid (HLw.out.trans (bb.mono HLw.out.size))
          clear HLw
          clear bb
          have c_s_0 : w8.cell? ⟨b_s, 0, none⟩ = some (.int .i64 l) := by rw [HB_s_8.out.cell]; rfl
          have c_s_1 : w8.cell? ⟨b_s, 1, none⟩ = some (.slice B k d) := by rw [HB_s_8.out.cell]; rfl
          have l_s := HB_s_8.out.lt
          obtain ⟨fo, hfo⟩ : ∃ z, z = pfOk l rs s ec := ⟨_, rfl⟩
          obtain ⟨pl, hpl⟩ : ∃ z, z = pfL l rs s ec := ⟨_, rfl⟩
          have hplb : pl.length ≤ 1048576 := by rw [hpl]; exact pfL_len _ _ _ _
          have g1 := Ffd.out
          have g2 := Fnf.out
          rw [← hfo, ← hpl] at g1
          rw [← hfo] at g2
          rw [← hpl] at hO3
          rw [← hfo, ← hpl]
          obtain ⟨pn, hpn⟩ : ∃ z, z = pl.length := ⟨_, rfl⟩
          rw [← hpn] at hO3 hplb
          rw [← hpn]
          have hR3 := Rd.of_own hO3
          clear hO3 hfo hpl Ffd Fnf
          have HR3 := Lib.hid hR3
          clear hR3
          have Hpn := Lib.hid hpn
          clear hpn
          have G1 := Lib.hid g1
          clear g1
          have G2 := Lib.hid g2
          clear g2
          (try go_wp2_with fail)
          with_reducible refine (specTraceOf_any l B k d rs s _ HR_s_8.out Hk.out hkb Hzs.out hsb).mono ?_
          rintro e w9 ⟨E4, e4, rfl, -, bb⟩
          clear c_s_0 c_s_1 l_s
          have HB_s_9 := Lib.hid (HB_s_8.out.below bb HB_s_8.out.lt)
          clear HB_s_8
          have HR_s_9 := Lib.hid (HR_s_8.out.keep bb)
          clear HR_s_8
          have HR_C_9 := Lib.hid (HR_C_8.out.keep bb)
          clear HR_C_8
          have HR_p_9 := Lib.hid (HR3.out.keep bb)
          clear HR3
          have HL_9 := Lib.hid (HL_8.out.trans (bb.mono HL_8.out.size))
          clear HL_8
          clear bb
          have c_s_0 : w9.cell? ⟨b_s, 0, none⟩ = some (.int .i64 l) := by rw [HB_s_9.out.cell]; rfl
          have c_s_1 : w9.cell? ⟨b_s, 1, none⟩ = some (.slice B k d) := by rw [HB_s_9.out.cell]; rfl
          have l_s := HB_s_9.out.lt
          rw [Ft1.out]
          obtain ⟨t1, ht1⟩ : ∃ z, z = (trS l rs s).length := ⟨_, rfl⟩
          have ht1b : t1 ≤ 8589934592 := by rw [ht1]; exact trS_len _ _ _
          rw [← ht1]
          have Ht1 := Lib.hid ht1
          clear ht1
          (try go_wp2_with fail)
          with_reducible refine (specTraceOf_any l B k d rs ec _ HR_s_9.out Hk.out hkb Hzs.out hecb).mono ?_
          rintro e w10 ⟨E5, e5, rfl, -, bb⟩
          clear c_s_0 c_s_1 l_s
          have HB_s_10 := Lib.hid (HB_s_9.out.below bb HB_s_9.out.lt)
          clear HB_s_9
          have HR_s_10 := Lib.hid (HR_s_9.out.keep bb)
          clear HR_s_9
          have HR_C_10 := Lib.hid (HR_C_9.out.keep bb)
          clear HR_C_9
          have HR_p_10 := Lib.hid (HR_p_9.out.keep bb)
          clear HR_p_9
          have HL_10 := Lib.hid (HL_9.out.trans (bb.mono HL_9.out.size))
          clear HL_9
          clear bb
          have c_s_0 : w10.cell? ⟨b_s, 0, none⟩ = some (.int .i64 l) := by rw [HB_s_10.out.cell]; rfl
          have c_s_1 : w10.cell? ⟨b_s, 1, none⟩ = some (.slice B k d) := by rw [HB_s_10.out.cell]; rfl
          have l_s := HB_s_10.out.lt
          rw [Ft2.out]
          obtain ⟨t2, ht2⟩ : ∃ z, z = (trS l rs ec).length := ⟨_, rfl⟩
          have ht2b : t2 ≤ 8589934592 := by rw [ht2]; exact trS_len _ _ _
          rw [← ht2]
          have g3 := G2.out
          rw [← Ht1.out, ← ht2] at g3
          clear G2
          have Ht2 := Lib.hid ht2
          clear ht2
          have G3 := Lib.hid g3
          clear g3
          obtain ⟨bk1, hbk1⟩ : ∃ z, z = backN (turnL ls) := ⟨_, rfl⟩
          obtain ⟨bk2, hbk2⟩ : ∃ z, z = backN ls := ⟨_, rfl⟩
          have hbs := Fbk.out
          rw [← hbk1, ← hbk2] at hbs
          have hbi : (m : Int) - (bk2 : Int) = (bk1 : Int) := by omega
          clear Fbk hbs
          have Hbk1 := Lib.hid hbk1
          clear hbk1
          have Hbk2 := Lib.hid hbk2
          clear hbk2
          cases fo
          · skip
            by_cases h200 : t1 + t2 ≤ 200
            · skip
              have hc := G3.out rfl h200
              have h2 : ¬ (200 : Int) < (t1 : Int) + (t2 : Int) := by omega
              have Hc := Lib.hid hc
              clear hc
              (try go_wp2_with fail)
              with_reducible refine (implIsComplete_any l B k d rs _ HR_s_10.out Hk.out hkb Hzs.out).mono ?_
              rintro e w11 ⟨rfl, bb⟩
              clear c_s_0 c_s_1 l_s
              have HB_s_11 := Lib.hid (HB_s_10.out.below bb HB_s_10.out.lt)
              clear HB_s_10
              have HR_s_11 := Lib.hid (HR_s_10.out.keep bb)
              clear HR_s_10
              have HR_C_11 := Lib.hid (HR_C_10.out.keep bb)
              clear HR_C_10
              have HR_p_11 := Lib.hid (HR_p_10.out.keep bb)
              clear HR_p_10
              have HL_11 := Lib.hid (HL_10.out.trans (bb.mono HL_10.out.size))
              clear HL_10
              clear bb
              have c_s_0 : w11.cell? ⟨b_s, 0, none⟩ = some (.int .i64 l) := by rw [HB_s_11.out.cell]; rfl
              have c_s_1 : w11.cell? ⟨b_s, 1, none⟩ = some (.slice B k d) := by rw [HB_s_11.out.cell]; rfl
              have l_s := HB_s_11.out.lt
              rw [Hc.out]
              (try go_wp2_with fail)
              with_reducible refine (implTurnProof_any C m ce ls _ HR_C_11.out Hm.out hmb).mono ?_
              rintro e w12 ⟨E6, e6, rfl, hO6, bb⟩
              clear c_s_0 c_s_1 l_s
              have HB_s_12 := Lib.hid (HB_s_11.out.below bb HB_s_11.out.lt)
              clear HB_s_11
              have HR_s_12 := Lib.hid (HR_s_11.out.keep bb)
              clear HR_s_11
              have HR_C_12 := Lib.hid (HR_C_11.out.keep bb)
              clear HR_C_11
              have HR_p_12 := Lib.hid (HR_p_11.out.keep bb)
              clear HR_p_11
              have HL_12 := Lib.hid (HL_11.out.trans (bb.mono HL_11.out.size))
              clear HL_11
              clear bb
              have c_s_0 : w12.cell? ⟨b_s, 0, none⟩ = some (.int .i64 l) := by rw [HB_s_12.out.cell]; rfl
              have c_s_1 : w12.cell? ⟨b_s, 1, none⟩ = some (.slice B k d) := by rw [HB_s_12.out.cell]; rfl
              have l_s := HB_s_12.out.lt
              rw [← Ftl.out] at hO6
              rw [← Ftl.out]
              have hR6 := Rd.of_own hO6
              clear hO6
              have HR6 := Lib.hid hR6
              clear hR6
              (try go_wp2_with fail)
              with_reducible refine (implCountBack_any E6 m e6 (turnL ls) _ HR6.out Ftl.out hmb).mono ?_
              rintro e w13 ⟨rfl, bb⟩
              clear c_s_0 c_s_1 l_s
              have HB_s_13 := Lib.hid (HB_s_12.out.below bb HB_s_12.out.lt)
              clear HB_s_12
              have HR_s_13 := Lib.hid (HR_s_12.out.keep bb)
              clear HR_s_12
              have HR_C_13 := Lib.hid (HR_C_12.out.keep bb)
              clear HR_C_12
              have HR_p_13 := Lib.hid (HR_p_12.out.keep bb)
              clear HR_p_12
              have HR_t_13 := Lib.hid (HR6.out.keep bb)
              clear HR6
              have HL_13 := Lib.hid (HL_12.out.trans (bb.mono HL_12.out.size))
              clear HL_12
              clear bb
              have c_s_0 : w13.cell? ⟨b_s, 0, none⟩ = some (.int .i64 l) := by rw [HB_s_13.out.cell]; rfl
              have c_s_1 : w13.cell? ⟨b_s, 1, none⟩ = some (.slice B k d) := by rw [HB_s_13.out.cell]; rfl
              have l_s := HB_s_13.out.lt
              rw [← Hbk1.out]
              (try go_wp2_with fail)
              with_reducible refine (implCountBack_any C m ce ls _ HR_C_13.out Hm.out hmb).mono ?_
              rintro e w14 ⟨rfl, bb⟩
              clear c_s_0 c_s_1 l_s
              have HB_s_14 := Lib.hid (HB_s_13.out.below bb HB_s_13.out.lt)
              clear HB_s_13
              have HR_s_14 := Lib.hid (HR_s_13.out.keep bb)
              clear HR_s_13
              have HR_C_14 := Lib.hid (HR_C_13.out.keep bb)
              clear HR_C_13
              have HR_p_14 := Lib.hid (HR_p_13.out.keep bb)
              clear HR_p_13
              have HR_t_14 := Lib.hid (HR_t_13.out.keep bb)
              clear HR_t_13
              have HL_14 := Lib.hid (HL_13.out.trans (bb.mono HL_13.out.size))
              clear HL_13
              clear bb
              have c_s_0 : w14.cell? ⟨b_s, 0, none⟩ = some (.int .i64 l) := by rw [HB_s_14.out.cell]; rfl
              have c_s_1 : w14.cell? ⟨b_s, 1, none⟩ = some (.slice B k d) := by rw [HB_s_14.out.cell]; rfl
              have l_s := HB_s_14.out.lt
              rw [← Hbk2.out]
              go_wp2_with fail
              go_ret
              exact ⟨rfl, HL_14.out⟩
            · skip
              have h2 : (200 : Int) < (t1 : Int) + (t2 : Int) := by omega
              (try go_wp2_with fail)
              with_reducible refine (implTurnProof_any C m ce ls _ HR_C_10.out Hm.out hmb).mono ?_
              rintro e w11 ⟨E6, e6, rfl, hO6, bb⟩
              clear c_s_0 c_s_1 l_s
              have HB_s_11 := Lib.hid (HB_s_10.out.below bb HB_s_10.out.lt)
              clear HB_s_10
              have HR_s_11 := Lib.hid (HR_s_10.out.keep bb)
              clear HR_s_10
              have HR_C_11 := Lib.hid (HR_C_10.out.keep bb)
              clear HR_C_10
              have HR_p_11 := Lib.hid (HR_p_10.out.keep bb)
              clear HR_p_10
              have HL_11 := Lib.hid (HL_10.out.trans (bb.mono HL_10.out.size))
              clear HL_10
              clear bb
              have c_s_0 : w11.cell? ⟨b_s, 0, none⟩ = some (.int .i64 l) := by rw [HB_s_11.out.cell]; rfl
              have c_s_1 : w11.cell? ⟨b_s, 1, none⟩ = some (.slice B k d) := by rw [HB_s_11.out.cell]; rfl
              have l_s := HB_s_11.out.lt
              rw [← Ftl.out] at hO6
              rw [← Ftl.out]
              have hR6 := Rd.of_own hO6
              clear hO6
              have HR6 := Lib.hid hR6
              clear hR6
              (try go_wp2_with fail)
              with_reducible refine (implCountBack_any E6 m e6 (turnL ls) _ HR6.out Ftl.out hmb).mono ?_
              rintro e w12 ⟨rfl, bb⟩
              clear c_s_0 c_s_1 l_s
              have HB_s_12 := Lib.hid (HB_s_11.out.below bb HB_s_11.out.lt)
              clear HB_s_11
              have HR_s_12 := Lib.hid (HR_s_11.out.keep bb)
              clear HR_s_11
              have HR_C_12 := Lib.hid (HR_C_11.out.keep bb)
              clear HR_C_11
              have HR_p_12 := Lib.hid (HR_p_11.out.keep bb)
              clear HR_p_11
              have HR_t_12 := Lib.hid (HR6.out.keep bb)
              clear HR6
              have HL_12 := Lib.hid (HL_11.out.trans (bb.mono HL_11.out.size))
              clear HL_11
              clear bb
              have c_s_0 : w12.cell? ⟨b_s, 0, none⟩ = some (.int .i64 l) := by rw [HB_s_12.out.cell]; rfl
              have c_s_1 : w12.cell? ⟨b_s, 1, none⟩ = some (.slice B k d) := by rw [HB_s_12.out.cell]; rfl
              have l_s := HB_s_12.out.lt
              rw [← Hbk1.out]
              (try go_wp2_with fail)
              with_reducible refine (implCountBack_any C m ce ls _ HR_C_12.out Hm.out hmb).mono ?_
              rintro e w13 ⟨rfl, bb⟩
              clear c_s_0 c_s_1 l_s
              have HB_s_13 := Lib.hid (HB_s_12.out.below bb HB_s_12.out.lt)
              clear HB_s_12
              have HR_s_13 := Lib.hid (HR_s_12.out.keep bb)
              clear HR_s_12
              have HR_C_13 := Lib.hid (HR_C_12.out.keep bb)
              clear HR_C_12
              have HR_p_13 := Lib.hid (HR_p_12.out.keep bb)
              clear HR_p_12
              have HR_t_13 := Lib.hid (HR_t_12.out.keep bb)
              clear HR_t_12
              have HL_13 := Lib.hid (HL_12.out.trans (bb.mono HL_12.out.size))
              clear HL_12
              clear bb
              have c_s_0 : w13.cell? ⟨b_s, 0, none⟩ = some (.int .i64 l) := by rw [HB_s_13.out.cell]; rfl
              have c_s_1 : w13.cell? ⟨b_s, 1, none⟩ = some (.slice B k d) := by rw [HB_s_13.out.cell]; rfl
              have l_s := HB_s_13.out.lt
              rw [← Hbk2.out]
              go_wp2_with fail
              go_ret
              exact ⟨rfl, HL_13.out⟩
          · skip
            have hy := G1.out rfl
            have Hy := Lib.hid hy
            clear hy
            by_cases h200 : (200 : Int) < (t1 : Int) + (t2 : Int)
            · skip
              (try go_wp2_with fail)
              with_reducible refine (implIsProof_any l B k d rs s ec E3 pn e3 pl _ HR_s_10.out Hk.out hkb Hzs.out hsb hecb HR_p_10.out Hpn.out hplb).mono ?_
              rintro e w11 ⟨rfl, bb⟩
              clear c_s_0 c_s_1 l_s
              have HB_s_11 := Lib.hid (HB_s_10.out.below bb HB_s_10.out.lt)
              clear HB_s_10
              have HR_s_11 := Lib.hid (HR_s_10.out.keep bb)
              clear HR_s_10
              have HR_C_11 := Lib.hid (HR_C_10.out.keep bb)
              clear HR_C_10
              have HR_p_11 := Lib.hid (HR_p_10.out.keep bb)
              clear HR_p_10
              have HL_11 := Lib.hid (HL_10.out.trans (bb.mono HL_10.out.size))
              clear HL_10
              clear bb
              have c_s_0 : w11.cell? ⟨b_s, 0, none⟩ = some (.int .i64 l) := by rw [HB_s_11.out.cell]; rfl
              have c_s_1 : w11.cell? ⟨b_s, 1, none⟩ = some (.slice B k d) := by rw [HB_s_11.out.cell]; rfl
              have l_s := HB_s_11.out.lt
              rw [Hy.out]
              (try go_wp2_with fail)
              with_reducible refine (implTurnProof_any C m ce ls _ HR_C_11.out Hm.out hmb).mono ?_
              rintro e w12 ⟨E6, e6, rfl, hO6, bb⟩
              clear c_s_0 c_s_1 l_s
              have HB_s_12 := Lib.hid (HB_s_11.out.below bb HB_s_11.out.lt)
              clear HB_s_11
              have HR_s_12 := Lib.hid (HR_s_11.out.keep bb)
              clear HR_s_11
              have HR_C_12 := Lib.hid (HR_C_11.out.keep bb)
              clear HR_C_11
              have HR_p_12 := Lib.hid (HR_p_11.out.keep bb)
              clear HR_p_11
              have HL_12 := Lib.hid (HL_11.out.trans (bb.mono HL_11.out.size))
              clear HL_11
              clear bb
              have c_s_0 : w12.cell? ⟨b_s, 0, none⟩ = some (.int .i64 l) := by rw [HB_s_12.out.cell]; rfl
              have c_s_1 : w12.cell? ⟨b_s, 1, none⟩ = some (.slice B k d) := by rw [HB_s_12.out.cell]; rfl
              have l_s := HB_s_12.out.lt
              rw [← Ftl.out] at hO6
              rw [← Ftl.out]
              have hR6 := Rd.of_own hO6
              clear hO6
              have HR6 := Lib.hid hR6
              clear hR6
              (try go_wp2_with fail)
              with_reducible refine (implCountBack_any E6 m e6 (turnL ls) _ HR6.out Ftl.out hmb).mono ?_
              rintro e w13 ⟨rfl, bb⟩
              clear c_s_0 c_s_1 l_s
              have HB_s_13 := Lib.hid (HB_s_12.out.below bb HB_s_12.out.lt)
              clear HB_s_12
              have HR_s_13 := Lib.hid (HR_s_12.out.keep bb)
              clear HR_s_12
              have HR_C_13 := Lib.hid (HR_C_12.out.keep bb)
              clear HR_C_12
              have HR_p_13 := Lib.hid (HR_p_12.out.keep bb)
              clear HR_p_12
              have HR_t_13 := Lib.hid (HR6.out.keep bb)
              clear HR6
              have HL_13 := Lib.hid (HL_12.out.trans (bb.mono HL_12.out.size))
              clear HL_12
              clear bb
              have c_s_0 : w13.cell? ⟨b_s, 0, none⟩ = some (.int .i64 l) := by rw [HB_s_13.out.cell]; rfl
              have c_s_1 : w13.cell? ⟨b_s, 1, none⟩ = some (.slice B k d) := by rw [HB_s_13.out.cell]; rfl
              have l_s := HB_s_13.out.lt
              rw [← Hbk1.out]
              (try go_wp2_with fail)
              with_reducible refine (implCountBack_any C m ce ls _ HR_C_13.out Hm.out hmb).mono ?_
              rintro e w14 ⟨rfl, bb⟩
              clear c_s_0 c_s_1 l_s
              have HB_s_14 := Lib.hid (HB_s_13.out.below bb HB_s_13.out.lt)
              clear HB_s_13
              have HR_s_14 := Lib.hid (HR_s_13.out.keep bb)
              clear HR_s_13
              have HR_C_14 := Lib.hid (HR_C_13.out.keep bb)
              clear HR_C_13
              have HR_p_14 := Lib.hid (HR_p_13.out.keep bb)
              clear HR_p_13
              have HR_t_14 := Lib.hid (HR_t_13.out.keep bb)
              clear HR_t_13
              have HL_14 := Lib.hid (HL_13.out.trans (bb.mono HL_13.out.size))
              clear HL_13
              clear bb
              have c_s_0 : w14.cell? ⟨b_s, 0, none⟩ = some (.int .i64 l) := by rw [HB_s_14.out.cell]; rfl
              have c_s_1 : w14.cell? ⟨b_s, 1, none⟩ = some (.slice B k d) := by rw [HB_s_14.out.cell]; rfl
              have l_s := HB_s_14.out.lt
              rw [← Hbk2.out]
              go_wp2_with fail
              go_ret
              exact ⟨rfl, HL_14.out⟩
            · skip
              (try go_wp2_with fail)
              with_reducible refine (implIsProof_any l B k d rs s ec E3 pn e3 pl _ HR_s_10.out Hk.out hkb Hzs.out hsb hecb HR_p_10.out Hpn.out hplb).mono ?_
              rintro e w11 ⟨rfl, bb⟩
              clear c_s_0 c_s_1 l_s
              have HB_s_11 := Lib.hid (HB_s_10.out.below bb HB_s_10.out.lt)
              clear HB_s_10
              have HR_s_11 := Lib.hid (HR_s_10.out.keep bb)
              clear HR_s_10
              have HR_C_11 := Lib.hid (HR_C_10.out.keep bb)
              clear HR_C_10
              have HR_p_11 := Lib.hid (HR_p_10.out.keep bb)
              clear HR_p_10
              have HL_11 := Lib.hid (HL_10.out.trans (bb.mono HL_10.out.size))
              clear HL_10
              clear bb
              have c_s_0 : w11.cell? ⟨b_s, 0, none⟩ = some (.int .i64 l) := by rw [HB_s_11.out.cell]; rfl
              have c_s_1 : w11.cell? ⟨b_s, 1, none⟩ = some (.slice B k d) := by rw [HB_s_11.out.cell]; rfl
              have l_s := HB_s_11.out.lt
              rw [Hy.out]
              (try go_wp2_with fail)
              with_reducible refine (implTurnProof_any C m ce ls _ HR_C_11.out Hm.out hmb).mono ?_
              rintro e w12 ⟨E6, e6, rfl, hO6, bb⟩
              clear c_s_0 c_s_1 l_s
              have HB_s_12 := Lib.hid (HB_s_11.out.below bb HB_s_11.out.lt)
              clear HB_s_11
              have HR_s_12 := Lib.hid (HR_s_11.out.keep bb)
              clear HR_s_11
              have HR_C_12 := Lib.hid (HR_C_11.out.keep bb)
              clear HR_C_11
              have HR_p_12 := Lib.hid (HR_p_11.out.keep bb)
              clear HR_p_11
              have HL_12 := Lib.hid (HL_11.out.trans (bb.mono HL_11.out.size))
              clear HL_11
              clear bb
              have c_s_0 : w12.cell? ⟨b_s, 0, none⟩ = some (.int .i64 l) := by rw [HB_s_12.out.cell]; rfl
              have c_s_1 : w12.cell? ⟨b_s, 1, none⟩ = some (.slice B k d) := by rw [HB_s_12.out.cell]; rfl
              have l_s := HB_s_12.out.lt
              rw [← Ftl.out] at hO6
              rw [← Ftl.out]
              have hR6 := Rd.of_own hO6
              clear hO6
              have HR6 := Lib.hid hR6
              clear hR6
              (try go_wp2_with fail)
              with_reducible refine (implCountBack_any E6 m e6 (turnL ls) _ HR6.out Ftl.out hmb).mono ?_
              rintro e w13 ⟨rfl, bb⟩
              clear c_s_0 c_s_1 l_s
              have HB_s_13 := Lib.hid (HB_s_12.out.below bb HB_s_12.out.lt)
              clear HB_s_12
              have HR_s_13 := Lib.hid (HR_s_12.out.keep bb)
              clear HR_s_12
              have HR_C_13 := Lib.hid (HR_C_12.out.keep bb)
              clear HR_C_12
              have HR_p_13 := Lib.hid (HR_p_12.out.keep bb)
              clear HR_p_12
              have HR_t_13 := Lib.hid (HR6.out.keep bb)
              clear HR6
              have HL_13 := Lib.hid (HL_12.out.trans (bb.mono HL_12.out.size))
              clear HL_12
              clear bb
              have c_s_0 : w13.cell? ⟨b_s, 0, none⟩ = some (.int .i64 l) := by rw [HB_s_13.out.cell]; rfl
              have c_s_1 : w13.cell? ⟨b_s, 1, none⟩ = some (.slice B k d) := by rw [HB_s_13.out.cell]; rfl
              have l_s := HB_s_13.out.lt
              rw [← Hbk1.out]
              (try go_wp2_with fail)
              with_reducible refine (implCountBack_any C m ce ls _ HR_C_13.out Hm.out hmb).mono ?_
              rintro e w14 ⟨rfl, bb⟩
              clear c_s_0 c_s_1 l_s
              have HB_s_14 := Lib.hid (HB_s_13.out.below bb HB_s_13.out.lt)
              clear HB_s_13
              have HR_s_14 := Lib.hid (HR_s_13.out.keep bb)
              clear HR_s_13
              have HR_C_14 := Lib.hid (HR_C_13.out.keep bb)
              clear HR_C_13
              have HR_p_14 := Lib.hid (HR_p_13.out.keep bb)
              clear HR_p_13
              have HR_t_14 := Lib.hid (HR_t_13.out.keep bb)
              clear HR_t_13
              have HL_14 := Lib.hid (HL_13.out.trans (bb.mono HL_13.out.size))
              clear HL_13
              clear bb
              have c_s_0 : w14.cell? ⟨b_s, 0, none⟩ = some (.int .i64 l) := by rw [HB_s_14.out.cell]; rfl
              have c_s_1 : w14.cell? ⟨b_s, 1, none⟩ = some (.slice B k d) := by rw [HB_s_14.out.cell]; rfl
              have l_s := HB_s_14.out.lt
              rw [← Hbk2.out]
              go_wp2_with fail
              go_ret
              exact ⟨rfl, HL_14.out⟩

set_option maxRecDepth 100000 in
theorem lifted_FnProofs (os : Os) (started : os.Started) (H : Type) (enc : TypeId × Value → H) :
    ReturnsInHanded {} Try.checked os 3 .any (Rows.fnProofsSpec.pre6 enc Try.prog Try.f3 Rows.fnProofsRow.domain false) (Rows.fnProofsSpec.post enc Try.prog Try.f3 false true false false) := by
  refine returnsInHanded_of_change (C := Try.checked) own_knob started (by kernel_rfl) Try.func3
    (ChangeSpec.witness6 (enc := enc) (C := Try.checked) false ⟨#[], #[.slice none 0 0], []⟩ 8 (by kernel_rfl) (by kernel_rfl) (by kernel_rfl) (by kernel_rfl)) ?_
  intro W base args ds gs before hval0 hW _ _
  have hval : ∀ (j : Nat) t v, Try.f3.params[j]? = some t → args[j]? = some v → Value.okWide Try.prog W .any base t v := hval0
  have hW' := hW
  obtain ⟨p, q, hA0, hV, rfl, hfz, hnd⟩ := hW
  have hA : DataW.TrodAll enc Try.prog W 0 (fun _ => true) true Try.f3.params.toList args.toList ds p := hA0
  rw [Try.params3] at hA hval
  obtain ⟨v0, vs0, d0, ds0, p0, q0, hargs, rfl, rfl, h0, r0⟩ := trodAll_cons hA
  obtain ⟨rfl, rfl, rfl⟩ := trodAll_nil r0
  obtain rfl : args = #[v0] := by cases args; simp_all
  obtain ⟨rfl, rfl⟩ := trodVars_none hV
  have k0 := h0
  have lt0 : ∀ x ∈ p0, x.block < W.heap.size := by obtain ⟨m, hm⟩ := k0; exact DataW.trod_lt m _ _ _ hm
  obtain ⟨a0, len0, cap0, rfl⟩ := okWide_slice Try.underlying22 (hval 0 22 v0 rfl rfl)
  obtain ⟨z0, R0⟩ := open_byteS h0
  clear hA0 hval0
  refine (law_FnProofs W a0 len0 cap0 z0 R0).mono fun e W' ⟨he, bel⟩ => ?_
  subst he
  exact ⟨_, rfl, _, _, _, [], _, [], hW', trodAll_mk1 (shut_bool Try.underlying4 _), (trodAll_cons_mk (Below.trod laid_out (by kernel_rfl) (of_decide_eq_true (by kernel_rfl)) k0 bel lt0) trodAll_mk0), rfl, bel.frame _, fun h => by cases h⟩

theorem FnProofs_holds : Rows.FnProofsSaid :=
  OpenClaim.holds_of_wide 3 Try.f3 rfl rfl rfl rfl rfl rfl rfl ⟨rfl, rfl, rfl, rfl, rfl⟩ rfl rfl rfl rfl rfl (by kernel_rfl) Try.func3 (by kernel_rfl)
    (of_decide_eq_true (by kernel_rfl)) (by unfold Func.isWrapper; first | (rw [if_pos (by decide +kernel)]; kernel_rfl) | (rw [if_neg (by decide +kernel)]; exact ⟨rfl, rfl⟩))
    (fun os started H enc _ => lifted_FnProofs os started H enc)

end Go.Proofs.Ytidmbeeadbedaaa
