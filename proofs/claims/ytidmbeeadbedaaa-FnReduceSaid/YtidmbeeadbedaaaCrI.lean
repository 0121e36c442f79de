/- Walk over CountReached of the program. -/
import Derived.Test.YtidmbeeadbedaaaMg16
import Derived.Test.YtidmbeeadbedaaaJoin
import Derived.Test.YtidmbeeadbedaaaShort
namespace Go.Proofs.Ytidmbeeadbedaaa
open Go.RowKit Go.Shelf

theorem zero_bool (w : World) : (zeroValue 4).run Try.prog w = .ok (.bool false) w := by kernel_rfl
theorem drop_snoc {Q : List ByteArray} {a : Nat} (h : a ≤ Q.length) (y : ByteArray) : strs ((Q ++ [y]).drop a) = strs (Q.drop a) ++ [.string y] := by
  rw [List.drop_append_of_le_length h]
  simp [strs]
theorem drop_cons {Q : List ByteArray} {a : Nat} (h : a < Q.length) : strs (Q.drop a) = .string (wAt Q a) :: strs (Q.drop (a + 1)) := by
  have e : wAt Q a = Q[a] := by unfold wAt; rw [List.getD_eq_getElem?_getD, List.getElem?_eq_getElem h]; rfl
  rw [List.drop_eq_getElem_cons h, e]
  rfl
set_option maxRecDepth 100000 in
set_option maxHeartbeats 8000000 in
theorem implCountReached_any (l : Int) (A : Option Addr) (n c : Nat) (rs : List RuleT) (s : ByteArray) (w : World) (hr : Rd w A (cellsRule rs)) (hn : n = rs.length) (hb : n ≤ 1048576) (hz : ∀ x ∈ rs, x.1.size ≤ 1048576 ∧ x.2.size ≤ 1048576) (hs : s.size ≤ 1048576) :
    Calls Try.prog 37 #[.agg #[.int .i64 l, .slice A n c], .string s] w (Kept w (.int .i64 (crN l rs s))) := by
  have hmm := @run_makeMap Try.prog
  have hW0 : Below w.heap.size w (w.alloc (.cells #[.int .i64 l, .slice A n c] 25)) := (Below.refl _ _).alloc (Nat.le_refl _) _
  have hS0 := Bk.new w 25 #[.int .i64 l, .slice A n c]
  have Hr := Lib.hid hr
  clear hr
  have Hn := Lib.hid hn
  clear hn
  have Hz := Lib.hid hz
  clear hz
  go_enter Try.func37, Try.ntmps37
  go_wp2_with fail
  with_reducible refine (implTakes_any l A n c rs s _ (Hr.out.keep hW0) Hn.out hb Hz.out hs).mono ?_
  rintro e w1 ⟨rfl, b1⟩
  have hW1 := hW0.trans (b1.mono hW0.size)
  have hS1 := hS0.below b1 hS0.lt
  have s0_1 : w1.cell? ⟨w.heap.size, 0, none⟩ = some (.int .i64 l) := by rw [hS1.cell]; rfl
  have s1_1 : w1.cell? ⟨w.heap.size, 1, none⟩ = some (.slice A n c) := by rw [hS1.cell]; rfl
  have sl_1 := hS1.lt
  clear b1
  obtain ⟨r1, hrr⟩ : ∃ r', r' = (takesOk l rs s) := ⟨_, rfl⟩
  rw [← hrr]
  have H1 := Lib.hid hrr
  clear hrr
  cases r1
  · have e1 : crN l rs s = -1 := by rw [crN, ← H1.out]; rfl
    have E1 := Lib.hid e1
    clear e1
    go_wp2_with fail
    go_ret
    exact ⟨ret_int (by rw [E1.out]), hW1⟩
  by_cases h8 : s.size ≤ 8
  rotate_left
  · have h8i : (8 : Int) < (s.size : Int) := by omega
    have e1 : crN l rs s = -1 := by rw [crN, ← H1.out, decide_eq_false h8]; rfl
    have E1 := Lib.hid e1
    clear e1
    go_wp2_with fail
    go_ret
    exact ⟨ret_int (by rw [E1.out]), hW1⟩
  have h8i : ¬ (8 : Int) < (s.size : Int) := by omega
  obtain ⟨hsy, hro, hg8⟩ := takes8 H1.out.symm h8
  have e0 : crN l rs s = ((crAll rs s).length : Int) := by rw [crN, ← H1.out, decide_eq_true h8]; rfl
  have hgd := crGood_one hg8
  have hk0 := key_str (x := s) (by omega)
  obtain ⟨gm, hgm⟩ : ∃ g, g = w1.heap.size := ⟨_, rfl⟩
  have hm0 := World.ownsMap_made (H := Unit) w1 Try.prog 9 boolR
  rw [← hgm] at hm0
  have hS00 := hS1.alloc (.map #[] 0)
  have hW00 := hW1.alloc hW1.size (.map #[] 0)
  have hgw : w.heap.size < gm := by rw [hgm]; exact sl_1
  obtain ⟨w2, hrun2, hown2, hgrow2⟩ := hm0.update (Maps.string_keyed Try.underlying9) Try.underlying126 (by unfold maxLen; omega) hk0 (boolR_mk true)
  have hS2 := hS00.grown hgrow2 (by intro e; injection e with e; omega)
  have hW2 := hW00.grown hgrow2 hW00.size (fun j hj => by cases hj; omega)
  have hM2 := MapT.nil.snoc s
  have hk3 : Maps.size ((DataW.map [] : DataW Unit).put (.string s.data.toList) (.lit (.bool true))) = 1 := by
    rw [Maps.size_put Maps.tidy_empty]
    rfl
  have hl2 := hgrow2.size
  have hml2 := hown2.lt
  obtain ⟨g0, hg0⟩ : ∃ g, g = w2.heap.size := ⟨_, rfl⟩
  have hrun2' : (Instr.mapUpdate 126 (.map (some w1.heap.size)) (.string s) (.bool true)).run Try.prog (w1.alloc (.map #[] 0)) = .ok () w2 := by rw [← hgm]; exact hrun2
  have o1 : OwnO (w2.alloc (.cells #[.string s] 9)) g0 w.heap.size 0 9 1 (strs ([s].drop 0)) 1 := OwnO.of_own ((OwnG.new w2 9 #[.string s] w.heap.size 1 1 hW2.size rfl (by unfold maxLen; omega)).cast hg0.symm).1
  have hS3 := hS2.alloc (.cells #[.string s] 9)
  have hW3 := hW2.alloc hW2.size (.cells #[.string s] 9)
  have hown3 := hown2.alloc (.cells #[.string s] 9)
  have hgne : g0 ≠ gm := by omega
  have hgl0 : w.heap.size < g0 := by omega
  clear hm0 hS00 hW00 hgrow2 hrun2 hown2 hS2 hW2 hS1 hW1
  have Hsy := Lib.hid hsy
  clear hsy
  have Hro := Lib.hid hro
  clear hro
  have Hg8 := Lib.hid hg8
  clear hg8
  have E0 := Lib.hid e0
  clear e0
  have Hgd := Lib.hid hgd
  clear hgd
  have O1 := Lib.hid o1
  clear o1
  have HS3 := Lib.hid hS3
  clear hS3
  have HW3 := Lib.hid hW3
  clear hW3
  have Hown3 := Lib.hid hown3
  clear hown3
  have HM2 := Lib.hid hM2
  clear hM2
  have Hk3 := Lib.hid hk3
  clear hk3
  have Hk0 := Lib.hid hk0
  clear hk0
  have Hgm := Lib.hid hgm
  clear hgm
  have Hg0 := Lib.hid hg0
  clear hg0
  go_wp2_with fail
  (try rw [← Hgm.out])
  (try rw [← Hg0.out])
  have hmz : mapLen (w2.alloc (.cells #[.string s] 9)) gm = 1 := by rw [mapLen_eq Hown3.out, Hk3.out]
  clear s0_1 s1_1 sl_1 hrun2'
  go_loopw [6] (fun v1 wr => ∃ (a : Nat) (Q : List ByteArray) (m g1 off c1 nM : Nat) (D : DataW Unit), v1 = .slice (some ⟨g1, off, none⟩) m c1 ∧ Hid (a + m = Q.length) ∧ a + m ≤ 131072 ∧ Hid (crGood l Q) ∧ Hid (crAll rs s = crGo rs (131073 - a) a Q) ∧ Hid (MapT D Q) ∧ Hid (Maps.size D = a + m) ∧ nM ≤ 131072 ∧ nM = a + m ∧ w.heap.size < g1 ∧ g1 ≠ gm ∧ Bk wr w.heap.size 25 #[.int .i64 l, .slice A n c] ∧ Below w.heap.size w wr ∧ wr.ownsMap Try.prog 9 boolR gm nM D ∧ OwnO wr g1 w.heap.size off 9 m (strs (Q.drop a)) c1) (fun v wr => 2 * (131073 - mapLen wr gm) + slenOf v)
  case atStart => exact ⟨0, [s], 1, g0, 0, 1, 1, _, rfl, Lib.hid rfl, by omega, Hgd, Lib.hid rfl, HM2, Hk3, by omega, rfl, hgl0, hgne, HS3.out, HW3.out, Hown3.out, O1.out⟩
  case round =>
    clear HS3 HW3 O1 Hgd Hown3 HM2 Hk3 hmz Hg0 hgne hgl0 hl2 hml2
    obtain ⟨a, S0, m, g1, off, c1, nM, D, rfl, HP, hpl, HG, HE, HM, HZ, hnM, hnMe, hg1, hgne, hS, hW, hmp, o1⟩ := hrel
    have hml0 : mapLen wr gm = a + m := by rw [mapLen_eq hmp, HZ.out]
    have hgml := hmp.lt
    by_cases hlt : 0 < m
    · have hal : a < S0.length := by rw [← HP.out]; omega
      obtain ⟨m1, rfl⟩ : ∃ k, m = k + 1 := ⟨m - 1, by omega⟩
      obtain ⟨cur, hcur⟩ : ∃ x, x = wAt S0 a := ⟨_, rfl⟩
      have hcg : good8 l cur := by rw [hcur]; exact HG.out.2 _ (wAt_mem hal)
      have hcz := hcg.2.2
      have hdc := drop_cons hal
      rw [← hcur] at hdc
      have hcw : (strs (S0.drop a))[0]? = some (.string cur) := by rw [hdc]; rfl
      have hsl := hS.lt
      have h1l := o1.lt
      have k1 := o1.cell hcw
      have eS : ∀ W, Below wr.heap.size wr W → W.cell? ⟨w.heap.size, 0, none⟩ = some (.int .i64 l) ∧ W.cell? ⟨w.heap.size, 1, none⟩ = some (.slice A n c) ∧ W.cell? ⟨g1, off, none⟩ = some (.string cur) := fun W h => ⟨by rw [(hS.below h hS.lt).cell]; rfl, by rw [(hS.below h hS.lt).cell]; rfl, (h.cell (p := ⟨g1, off, none⟩) h1l).trans k1⟩
      have hV0 : Below wr.heap.size wr wr.drew := (Below.refl _ _).drew
      have eR : ∀ W, Below wr.heap.size wr W → Rd W A (cellsRule rs) := fun W h => Hr.out.keep (hW.trans (h.mono hW.size))
      obtain ⟨X, hX⟩ : ∃ X, X = stepAcc rs cur cur.size := ⟨_, rfl⟩
      obtain ⟨q, hq⟩ : ∃ q, q = X.length := ⟨_, rfl⟩
      have hn12 : n ≤ 12 := by rw [Hn.out]; exact rulesOk_12 Hro.out
      have hqb : q ≤ 96 := by
        rw [hq, hX]
        refine Nat.le_trans (stepAcc_len rs cur cur.size) ?_
        have := rulesOk_12 Hro.out
        calc cur.size * rs.length ≤ 8 * 12 := Nat.mul_le_mul hcz this
          _ = 96 := rfl
      have hSt := fun (W : World) (hw : Rd W A (cellsRule rs)) => implSteps_any l A n c rs cur W hw Hn.out hb Hz.out (by omega) hn12
      rw [← hX, ← hq] at hSt
      have ES := Lib.hid eS
      clear eS
      have ER := Lib.hid eR
      clear eR
      have Hcur := Lib.hid hcur
      clear hcur
      have HX := Lib.hid hX
      clear hX
      have Hq := Lib.hid hq
      clear hq
      have Hcg := Lib.hid hcg
      clear hcg
      have Hcw := Lib.hid hcw
      clear hcw
      have Hdc := Lib.hid hdc
      clear hdc
      have HS := Lib.hid hS
      clear hS
      have HW := Lib.hid hW
      clear hW
      have O1 := Lib.hid o1
      clear o1
      have HSt := Lib.hid hSt
      clear hSt
      have Hmp := Lib.hid hmp
      clear hmp
      clear k1
      go_wp2_with fail
      refine wp_region_held_drew (S := (fun W => W.cell? ⟨w.heap.size, 0, none⟩ = some (.int .i64 l) ∧ W.cell? ⟨w.heap.size, 1, none⟩ = some (.slice A n c) ∧ W.cell? ⟨g1, off, none⟩ = some (.string cur))) (by kernel_rfl) (ES.out _ hV0) (fun hHeld => ?_)
      refine wpAnyH_take (i := 0) (oi := ?oi183) (v := ?val183) ?hi183 ?hs183 ?hf183 ?hr183 ?hQ183 ?hy183 ?hS183 ?hrest183
      case hi183 => (simp only [List.getElem?_toArray, List.getElem?_cons_succ, List.getElem?_cons_zero] <;> exact rfl)
      case hs183 => kernel_rfl
      case hf183 => kernel_rfl
      case hr183 => kernel_rfl
      case hQ183 => exact fun _ _ _ h => h
      case hS183 => assumption
      case hy183 => (refine Or.inl ⟨by rfl, ?_⟩; intro w hSw; (try dsimp only at hSw); (first | obtain ⟨z0, z1, z2, z3, z4, z5⟩ := hSw | obtain ⟨z0, z1, z2, z3⟩ := hSw | obtain ⟨z0, z1, z2⟩ := hSw | obtain ⟨z0, z1⟩ := hSw | skip); go_simp; try with_reducible rfl)
      simp only [Act.put, List.setIfInBounds_toArray, List.set_cons_zero, List.set_cons_succ]
      refine wpAnyH_take (i := 1) (oi := ?oi192) (v := ?val192) ?hi192 ?hs192 ?hf192 ?hr192 ?hQ192 ?hy192 ?hS192 ?hrest192
      case hi192 => (simp only [List.getElem?_toArray, List.getElem?_cons_succ, List.getElem?_cons_zero] <;> exact rfl)
      case hs192 => kernel_rfl
      case hf192 => kernel_rfl
      case hr192 => kernel_rfl
      case hQ192 => exact fun _ _ _ h => h
      case hS192 => assumption
      case hy192 => (refine Or.inl ⟨by rfl, ?_⟩; intro w hSw; (try dsimp only at hSw); (first | obtain ⟨z0, z1, z2, z3, z4, z5⟩ := hSw | obtain ⟨z0, z1, z2, z3⟩ := hSw | obtain ⟨z0, z1, z2⟩ := hSw | obtain ⟨z0, z1⟩ := hSw | skip); go_simp; try with_reducible rfl)
      simp only [Act.put, List.setIfInBounds_toArray, List.set_cons_zero, List.set_cons_succ]
      refine wpAnyH_take (i := 2) (oi := ?oi201) (v := ?val201) ?hi201 ?hs201 ?hf201 ?hr201 ?hQ201 ?hy201 ?hS201 ?hrest201
      case hi201 => (simp only [List.getElem?_toArray, List.getElem?_cons_succ, List.getElem?_cons_zero] <;> exact rfl)
      case hs201 => kernel_rfl
      case hf201 => kernel_rfl
      case hr201 => kernel_rfl
      case hQ201 => exact fun _ _ _ h => h
      case hS201 => assumption
      case hy201 => (refine Or.inl ⟨by rfl, ?_⟩; intro w hSw; (try dsimp only at hSw); (first | obtain ⟨z0, z1, z2, z3, z4, z5⟩ := hSw | obtain ⟨z0, z1, z2, z3⟩ := hSw | obtain ⟨z0, z1, z2⟩ := hSw | obtain ⟨z0, z1⟩ := hSw | skip); go_simp; try with_reducible rfl)
      simp only [Act.put, List.setIfInBounds_toArray, List.set_cons_zero, List.set_cons_succ]
      refine wpAnyH_take (i := 3) (oi := ?oi210) (v := ?val210) ?hi210 ?hs210 ?hf210 ?hr210 ?hQ210 ?hy210 ?hS210 ?hrest210
      case hi210 => (simp only [List.getElem?_toArray, List.getElem?_cons_succ, List.getElem?_cons_zero] <;> exact rfl)
      case hs210 => kernel_rfl
      case hf210 => kernel_rfl
      case hr210 => kernel_rfl
      case hQ210 => exact fun _ _ _ h => h
      case hS210 => assumption
      case hy210 => (refine Or.inl ⟨by rfl, ?_⟩; intro w hSw; (try dsimp only at hSw); (first | obtain ⟨z0, z1, z2, z3, z4, z5⟩ := hSw | obtain ⟨z0, z1, z2, z3⟩ := hSw | obtain ⟨z0, z1, z2⟩ := hSw | obtain ⟨z0, z1⟩ := hSw | skip); go_simp; try with_reducible rfl)
      simp only [Act.put, List.setIfInBounds_toArray, List.set_cons_zero, List.set_cons_succ]
      refine wpAnyH_take (i := 6) (oi := ?oi219) (v := ?val219) ?hi219 ?hs219 ?hf219 ?hr219 ?hQ219 ?hy219 ?hS219 ?hrest219
      case hi219 => (simp only [List.getElem?_toArray, List.getElem?_cons_succ, List.getElem?_cons_zero] <;> exact rfl)
      case hs219 => kernel_rfl
      case hf219 => kernel_rfl
      case hr219 => kernel_rfl
      case hQ219 => exact fun _ _ _ h => h
      case hS219 => assumption
      case hy219 => (refine Or.inl ⟨by rfl, ?_⟩; intro w hSw; (try dsimp only at hSw); (first | obtain ⟨z0, z1, z2, z3, z4, z5⟩ := hSw | obtain ⟨z0, z1, z2, z3⟩ := hSw | obtain ⟨z0, z1, z2⟩ := hSw | obtain ⟨z0, z1⟩ := hSw | skip); go_simp; try with_reducible rfl)
      simp only [Act.put, List.setIfInBounds_toArray, List.set_cons_zero, List.set_cons_succ]
      refine wpAnyH_ready (rs := [4]) (by kernel_rfl) (by simp) ?_
      refine AllReadyH.cons rfl (fun K hK => ?_) AllReadyH.nil
      (go_simp; ((with_reducible refine (HSt.out _ (ER.out _ hV0)).mono ?_); rintro e y1 ⟨B, d, rfl, hOX, b1⟩; have hV1 := hV0.trans (b1.mono hV0.size)))
      refine hK.out _ _ (ES.out _ hV1) (fun hHeld2 => ?_)
      clear hK K hHeld
      have hHeld := hHeld2
      clear hHeld2
      first | simp only [Act.put, List.setIfInBounds_toArray, List.set_cons_zero, List.set_cons_succ] | skip
      refine wpAnyH_take (i := 5) (oi := ?oi236) (v := ?val236) ?hi236 ?hs236 ?hf236 ?hr236 ?hQ236 ?hy236 ?hS236 ?hrest236
      case hi236 => (simp only [List.getElem?_toArray, List.getElem?_cons_succ, List.getElem?_cons_zero] <;> exact rfl)
      case hs236 => kernel_rfl
      case hf236 => kernel_rfl
      case hr236 => kernel_rfl
      case hQ236 => exact fun _ _ _ h => h
      case hS236 => assumption
      case hy236 => (refine Or.inl ⟨by rfl, ?_⟩; intro w hSw; (try dsimp only at hSw); (first | obtain ⟨z0, z1, z2, z3, z4, z5⟩ := hSw | obtain ⟨z0, z1, z2, z3⟩ := hSw | obtain ⟨z0, z1, z2⟩ := hSw | obtain ⟨z0, z1⟩ := hSw | skip); go_simp; try with_reducible rfl)
      simp only [Act.put, List.setIfInBounds_toArray, List.set_cons_zero, List.set_cons_succ]
      refine wpAnyH_done (by kernel_rfl) ?_ _
      have hrx := Rd.of_own hOX
      have hbx : ∀ ad, B = some ad → ad.block < y1.heap.size ∧ ad.block ≠ g1 ∧ ad.block ≠ gm := fun ad had => by
        have hl := hOX.lt ad.block (by rw [had]; rfl)
        have hl2 : wr.heap.size ≤ ad.block := hl.1
        have := O1.out.lt
        exact ⟨hl.2, by omega, by omega⟩
      have p1 := O1.out.below hV1
      have hS1 := HS.out.below hV1 HS.out.lt
      have hW1 := HW.out.trans (hV1.mono HW.out.size)
      have hmp1 := map_keep Hmp.out hV1 hgml
      clear hHeld O1 HS HW ES ER hOX hV0 hV1 b1 Hcw h1l hsl HSt Hmp hgml
      have Hrx := Lib.hid hrx
      clear hrx
      have Hbx := Lib.hid hbx
      clear hbx
      have P1 := Lib.hid p1
      clear p1
      have HS1 := Lib.hid hS1
      clear hS1
      have HW1 := Lib.hid hW1
      clear hW1
      have Hmp1 := Lib.hid hmp1
      clear hmp1
      go_wp2_with fail
      go_loopw [6, 36] (fun v1 i wr => ∃ (j : Nat) (Q : List ByteArray) (m g1 off c1 nM : Nat) (D : DataW Unit), v1 = .slice (some ⟨g1, off, none⟩) m c1 ∧ i = .int .i64 j ∧ j ≤ q ∧ Hid (a + m = Q.length) ∧ Hid (Q = crRow rs cur S0 (X.take j)) ∧ Hid (MapT D Q) ∧ Hid (Maps.size D = a + m) ∧ nM = a + m ∧ w.heap.size < g1 ∧ g1 ≠ gm ∧ Hid (∀ ad, B = some ad → ad.block < wr.heap.size ∧ ad.block ≠ g1 ∧ ad.block ≠ gm) ∧ Rd wr B (cellsStep X) ∧ Bk wr w.heap.size 25 #[.int .i64 l, .slice A n c] ∧ Below w.heap.size w wr ∧ wr.ownsMap Try.prog 9 boolR gm nM D ∧ OwnO wr g1 w.heap.size off 9 m (strs (Q.drop a)) c1) (fun _ i _ => q - (intOf i).toNat)
      case atStart => exact ⟨0, S0, m1 + 1, g1, off, c1, nM, D, rfl, rfl, Nat.zero_le _, HP, Lib.hid rfl, HM, HZ, hnMe, hg1, hgne, Hbx, Hrx.out, HS1.out, HW1.out, Hmp1.out, P1.out⟩
      case round =>
        clear Hrx Hbx P1 HS1 HW1 HM HZ hg1 hgne Hmp1 hnM hnMe
        obtain ⟨j, S, m, g1, off, c1, nM, D, rfl, rfl, hj, HP', HS', HM, HZ, hnMe, hg1, hgne, Hbx, hrx, hS, hW, hmp, p1⟩ := hrel
        have hsub : ∀ (J : Nat), ∀ x ∈ X.take J, x ∈ stepAcc rs cur cur.size := fun J x hx => by rw [← HX.out]; exact List.mem_of_mem_take hx
        obtain ⟨hgS, T, hT⟩ := crRow_good Hsy.out Hcg.out (X.take j) S0 HG.out (hsub j)
        rw [← HS'.out] at hgS hT
        have hpl2 : a + m ≤ 131072 := by rw [HP'.out]; exact crGood_len hgS
        have hS0l : S0.length ≤ S.length := by rw [hT, List.length_append]; omega
        have haS : a < S.length := by omega
        have hatS : wAt S a = wAt S0 a := by rw [hT]; exact wAt_app hal
        have hm0 : 0 < m := by have := HP'.out; omega
        have hgml := hmp.lt
        by_cases hltj : j < q
        · have hj2 : j < X.length := by rw [← Hq.out]; exact hltj
          obtain ⟨b, o, hB, hbl, x0c, x1c⟩ := rd_Step hrx hj2
          obtain ⟨⟨x0, x1⟩, hx⟩ : ∃ x, x = X[j] := ⟨_, rfl⟩
          rw [← hx] at x0c x1c
          dsimp only at x0c x1c
          have htk : X.take (j + 1) = X.take j ++ [(x0, x1)] := by rw [hx]; exact List.take_succ_eq_append_getElem hj2
          have hnx : crRow rs cur S0 (X.take (j + 1)) = crAdd rs cur S (x0, x1) := by rw [htk, crRow_snoc, ← HS'.out]
          have hmem : (x0, x1) ∈ stepAcc rs cur cur.size := by rw [← HX.out, hx]; exact List.getElem_mem hj2
          obtain ⟨kk, pp, hkp, hkl, _, _⟩ := mem_step hmem
          have hx0 : x0 = (kk : Int) := congrArg Prod.fst hkp
          have hy8 := step_good8 Hsy.out Hcg.out hmem
          clear hkp
          subst hB
          have hdc2 := drop_cons haS
          rw [hatS, ← Hcur.out] at hdc2
          have hcw : (strs (S.drop a))[0]? = some (.string cur) := by rw [hdc2]; rfl
          have l1 := p1.lt
          have hB8 := Bk.new wr 61 #[.int .i64 x0, .int .i64 x1]
          have hS8 := hS.alloc (.cells #[.int .i64 x0, .int .i64 x1] 61)
          have hW8 := hW.alloc hW.size (.cells #[.int .i64 x0, .int .i64 x1] 61)
          have k1 := (p1.alloc (.cells #[.int .i64 x0, .int .i64 x1] 61)).cell hcw
          have hwl : wr.heap.size < (World.alloc wr (.cells #[.int .i64 x0, .int .i64 x1] 61)).heap.size := by simp
          have eS : ∀ W, Below (World.alloc wr (.cells #[.int .i64 x0, .int .i64 x1] 61)).heap.size (World.alloc wr (.cells #[.int .i64 x0, .int .i64 x1] 61)) W → W.cell? ⟨w.heap.size, 0, none⟩ = some (.int .i64 l) ∧ W.cell? ⟨w.heap.size, 1, none⟩ = some (.slice A n c) ∧ W.cell? ⟨g1, off, none⟩ = some (.string cur) ∧ W.cell? ⟨wr.heap.size, 0, none⟩ = some (.int .i64 x0) ∧ W.cell? ⟨wr.heap.size, 1, none⟩ = some (.int .i64 x1) := fun W h => ⟨by rw [(hS8.below h hS8.lt).cell]; rfl, by rw [(hS8.below h hS8.lt).cell]; rfl, (h.cell (p := ⟨g1, off, none⟩) (Nat.lt_trans l1 hwl)).trans k1, by rw [(hB8.below h hB8.lt).cell]; rfl, by rw [(hB8.below h hB8.lt).cell]; rfl⟩
          have hV0 : Below (World.alloc wr (.cells #[.int .i64 x0, .int .i64 x1] 61)).heap.size (World.alloc wr (.cells #[.int .i64 x0, .int .i64 x1] 61)) (World.alloc wr (.cells #[.int .i64 x0, .int .i64 x1] 61)).drew := (Below.refl _ _).drew
          have eR : ∀ W, Below (World.alloc wr (.cells #[.int .i64 x0, .int .i64 x1] 61)).heap.size (World.alloc wr (.cells #[.int .i64 x0, .int .i64 x1] 61)) W → Rd W A (cellsRule rs) := fun W h => Hr.out.keep (hW8.trans (h.mono hW8.size))
          obtain ⟨y, hy⟩ : ∃ y, y = applyS rs cur (x0, x1) := ⟨_, rfl⟩
          obtain ⟨ky, hky⟩ : ∃ k, k = applyOk rs cur (x0, x1) := ⟨_, rfl⟩
          rw [← hy] at hy8
          have hyz := hy8.2.2
          have eV : ∀ W, Below (World.alloc wr (.cells #[.int .i64 x0, .int .i64 x1] 61)).heap.size (World.alloc wr (.cells #[.int .i64 x0, .int .i64 x1] 61)) W → OwnO W g1 w.heap.size off 9 m (strs (S.drop a)) c1 ∧ Bk W w.heap.size 25 #[.int .i64 l, .slice A n c] ∧ Rd W (some ⟨b, o, none⟩) (cellsStep X) ∧ Below w.heap.size w W ∧ wr.heap.size < W.heap.size ∧ W.ownsMap Try.prog 9 boolR gm nM D := fun W h => ⟨(p1.alloc _).below h, hS8.below h hS8.lt, (hrx.keep ((Below.refl _ wr).alloc (Nat.le_refl _) _)).keep h, hW8.trans (h.mono hW8.size), Nat.lt_of_lt_of_le hwl h.size, map_keep (hmp.alloc _) h (Nat.lt_trans hgml hwl)⟩
          have hslS := hS.lt
          have hAp := fun (W : World) (hw : Rd W A (cellsRule rs)) => implApply_any l A n c rs cur x0 x1 kk W hw Hn.out hb Hz.out (by omega) hx0 hkl
          rw [← hy, ← hky] at hAp
          clear k1 hS8 hW8 hB8 p1 hS hW hmp hx0
          have ES := Lib.hid eS
          clear eS
          have ER := Lib.hid eR
          clear eR
          have EV := Lib.hid eV
          clear eV
          have Hx := Lib.hid hx
          clear hx
          have Htk := Lib.hid htk
          clear htk
          have Hnx := Lib.hid hnx
          clear hnx
          have HgS := Lib.hid hgS
          clear hgS
          have HT := Lib.hid hT
          clear hT
          have HatS := Lib.hid hatS
          clear hatS
          have Hcw := Lib.hid hcw
          clear hcw
          have Hdc2 := Lib.hid hdc2
          clear hdc2
          have Hy := Lib.hid hy
          clear hy
          have Hky := Lib.hid hky
          clear hky
          have Hrx := Lib.hid hrx
          clear hrx
          have Hsub := Lib.hid hsub
          clear hsub
          have Hmem := Lib.hid hmem
          clear hmem
          have HAp := Lib.hid hAp
          clear hAp
          have Hy8 := Lib.hid hy8
          clear hy8
          go_wp2_with fail
          refine wp_region_held_drew (S := (fun W => W.cell? ⟨w.heap.size, 0, none⟩ = some (.int .i64 l) ∧ W.cell? ⟨w.heap.size, 1, none⟩ = some (.slice A n c) ∧ W.cell? ⟨g1, off, none⟩ = some (.string cur) ∧ W.cell? ⟨wr.heap.size, 0, none⟩ = some (.int .i64 x0) ∧ W.cell? ⟨wr.heap.size, 1, none⟩ = some (.int .i64 x1))) (by kernel_rfl) (ES.out _ hV0) (fun hHeld => ?_)
          refine wpAnyH_take (i := 0) (oi := ?oi357) (v := ?val357) ?hi357 ?hs357 ?hf357 ?hr357 ?hQ357 ?hy357 ?hS357 ?hrest357
          case hi357 => (simp only [List.getElem?_toArray, List.getElem?_cons_succ, List.getElem?_cons_zero] <;> exact rfl)
          case hs357 => kernel_rfl
          case hf357 => kernel_rfl
          case hr357 => kernel_rfl
          case hQ357 => exact fun _ _ _ h => h
          case hS357 => assumption
          case hy357 => (refine Or.inl ⟨by rfl, ?_⟩; intro w hSw; (try dsimp only at hSw); (first | obtain ⟨z0, z1, z2, z3, z4, z5⟩ := hSw | obtain ⟨z0, z1, z2, z3⟩ := hSw | obtain ⟨z0, z1, z2⟩ := hSw | obtain ⟨z0, z1⟩ := hSw | skip); go_simp; try with_reducible rfl)
          simp only [Act.put, List.setIfInBounds_toArray, List.set_cons_zero, List.set_cons_succ]
          refine wpAnyH_take (i := 1) (oi := ?oi366) (v := ?val366) ?hi366 ?hs366 ?hf366 ?hr366 ?hQ366 ?hy366 ?hS366 ?hrest366
          case hi366 => (simp only [List.getElem?_toArray, List.getElem?_cons_succ, List.getElem?_cons_zero] <;> exact rfl)
          case hs366 => kernel_rfl
          case hf366 => kernel_rfl
          case hr366 => kernel_rfl
          case hQ366 => exact fun _ _ _ h => h
          case hS366 => assumption
          case hy366 => (refine Or.inl ⟨by rfl, ?_⟩; intro w hSw; (try dsimp only at hSw); (first | obtain ⟨z0, z1, z2, z3, z4, z5⟩ := hSw | obtain ⟨z0, z1, z2, z3⟩ := hSw | obtain ⟨z0, z1, z2⟩ := hSw | obtain ⟨z0, z1⟩ := hSw | skip); go_simp; try with_reducible rfl)
          simp only [Act.put, List.setIfInBounds_toArray, List.set_cons_zero, List.set_cons_succ]
          refine wpAnyH_take (i := 2) (oi := ?oi375) (v := ?val375) ?hi375 ?hs375 ?hf375 ?hr375 ?hQ375 ?hy375 ?hS375 ?hrest375
          case hi375 => (simp only [List.getElem?_toArray, List.getElem?_cons_succ, List.getElem?_cons_zero] <;> exact rfl)
          case hs375 => kernel_rfl
          case hf375 => kernel_rfl
          case hr375 => kernel_rfl
          case hQ375 => exact fun _ _ _ h => h
          case hS375 => assumption
          case hy375 => (refine Or.inl ⟨by rfl, ?_⟩; intro w hSw; (try dsimp only at hSw); (first | obtain ⟨z0, z1, z2, z3, z4, z5⟩ := hSw | obtain ⟨z0, z1, z2, z3⟩ := hSw | obtain ⟨z0, z1, z2⟩ := hSw | obtain ⟨z0, z1⟩ := hSw | skip); go_simp; try with_reducible rfl)
          simp only [Act.put, List.setIfInBounds_toArray, List.set_cons_zero, List.set_cons_succ]
          refine wpAnyH_take (i := 3) (oi := ?oi384) (v := ?val384) ?hi384 ?hs384 ?hf384 ?hr384 ?hQ384 ?hy384 ?hS384 ?hrest384
          case hi384 => (simp only [List.getElem?_toArray, List.getElem?_cons_succ, List.getElem?_cons_zero] <;> exact rfl)
          case hs384 => kernel_rfl
          case hf384 => kernel_rfl
          case hr384 => kernel_rfl
          case hQ384 => exact fun _ _ _ h => h
          case hS384 => assumption
          case hy384 => (refine Or.inl ⟨by rfl, ?_⟩; intro w hSw; (try dsimp only at hSw); (first | obtain ⟨z0, z1, z2, z3, z4, z5⟩ := hSw | obtain ⟨z0, z1, z2, z3⟩ := hSw | obtain ⟨z0, z1, z2⟩ := hSw | obtain ⟨z0, z1⟩ := hSw | skip); go_simp; try with_reducible rfl)
          simp only [Act.put, List.setIfInBounds_toArray, List.set_cons_zero, List.set_cons_succ]
          refine wpAnyH_take (i := 4) (oi := ?oi393) (v := ?val393) ?hi393 ?hs393 ?hf393 ?hr393 ?hQ393 ?hy393 ?hS393 ?hrest393
          case hi393 => (simp only [List.getElem?_toArray, List.getElem?_cons_succ, List.getElem?_cons_zero] <;> exact rfl)
          case hs393 => kernel_rfl
          case hf393 => kernel_rfl
          case hr393 => kernel_rfl
          case hQ393 => exact fun _ _ _ h => h
          case hS393 => assumption
          case hy393 => (refine Or.inl ⟨by rfl, ?_⟩; intro w hSw; (try dsimp only at hSw); (first | obtain ⟨z0, z1, z2, z3, z4, z5⟩ := hSw | obtain ⟨z0, z1, z2, z3⟩ := hSw | obtain ⟨z0, z1, z2⟩ := hSw | obtain ⟨z0, z1⟩ := hSw | skip); go_simp; try with_reducible rfl)
          simp only [Act.put, List.setIfInBounds_toArray, List.set_cons_zero, List.set_cons_succ]
          refine wpAnyH_ready (rs := [5]) (by kernel_rfl) (by simp) ?_
          refine AllReadyH.cons rfl (fun K hK => ?_) AllReadyH.nil
          (go_simp; ((with_reducible refine (HAp.out _ (ER.out _ hV0)).mono ?_); rintro e y2 ⟨rfl, b2⟩; have hV1 := hV0.trans (b2.mono hV0.size)))
          refine hK.out _ _ (ES.out _ hV1) (fun hHeld2 => ?_)
          clear hK K hHeld
          have hHeld := hHeld2
          clear hHeld2
          first | simp only [Act.put, List.setIfInBounds_toArray, List.set_cons_zero, List.set_cons_succ] | skip
          refine wpAnyH_take (i := 6) (oi := ?oi410) (v := ?val410) ?hi410 ?hs410 ?hf410 ?hr410 ?hQ410 ?hy410 ?hS410 ?hrest410
          case hi410 => (simp only [List.getElem?_toArray, List.getElem?_cons_succ, List.getElem?_cons_zero] <;> exact rfl)
          case hs410 => kernel_rfl
          case hf410 => kernel_rfl
          case hr410 => kernel_rfl
          case hQ410 => exact fun _ _ _ h => h
          case hS410 => assumption
          case hy410 => (refine Or.inl ⟨by rfl, ?_⟩; intro w hSw; (try dsimp only at hSw); (first | obtain ⟨z0, z1, z2, z3, z4, z5⟩ := hSw | obtain ⟨z0, z1, z2, z3⟩ := hSw | obtain ⟨z0, z1, z2⟩ := hSw | obtain ⟨z0, z1⟩ := hSw | skip); go_simp; try with_reducible rfl)
          simp only [Act.put, List.setIfInBounds_toArray, List.set_cons_zero, List.set_cons_succ]
          refine wpAnyH_take (i := 7) (oi := ?oi419) (v := ?val419) ?hi419 ?hs419 ?hf419 ?hr419 ?hQ419 ?hy419 ?hS419 ?hrest419
          case hi419 => (simp only [List.getElem?_toArray, List.getElem?_cons_succ, List.getElem?_cons_zero] <;> exact rfl)
          case hs419 => kernel_rfl
          case hf419 => kernel_rfl
          case hr419 => kernel_rfl
          case hQ419 => exact fun _ _ _ h => h
          case hS419 => assumption
          case hy419 => (refine Or.inl ⟨by rfl, ?_⟩; intro w hSw; (try dsimp only at hSw); (first | obtain ⟨z0, z1, z2, z3, z4, z5⟩ := hSw | obtain ⟨z0, z1, z2, z3⟩ := hSw | obtain ⟨z0, z1, z2⟩ := hSw | obtain ⟨z0, z1⟩ := hSw | skip); go_simp; try with_reducible rfl)
          simp only [Act.put, List.setIfInBounds_toArray, List.set_cons_zero, List.set_cons_succ]
          refine wpAnyH_take (i := 8) (oi := ?oi428) (v := ?val428) ?hi428 ?hs428 ?hf428 ?hr428 ?hQ428 ?hy428 ?hS428 ?hrest428
          case hi428 => (simp only [List.getElem?_toArray, List.getElem?_cons_succ, List.getElem?_cons_zero] <;> exact rfl)
          case hs428 => kernel_rfl
          case hf428 => kernel_rfl
          case hr428 => kernel_rfl
          case hQ428 => exact fun _ _ _ h => h
          case hS428 => assumption
          case hy428 => (refine Or.inl ⟨by rfl, ?_⟩; intro w hSw; (try dsimp only at hSw); (first | obtain ⟨z0, z1, z2, z3, z4, z5⟩ := hSw | obtain ⟨z0, z1, z2, z3⟩ := hSw | obtain ⟨z0, z1, z2⟩ := hSw | obtain ⟨z0, z1⟩ := hSw | skip); go_simp; try with_reducible rfl)
          simp only [Act.put, List.setIfInBounds_toArray, List.set_cons_zero, List.set_cons_succ]
          refine wpAnyH_take (i := 9) (oi := ?oi437) (v := ?val437) ?hi437 ?hs437 ?hf437 ?hr437 ?hQ437 ?hy437 ?hS437 ?hrest437
          case hi437 => (simp only [List.getElem?_toArray, List.getElem?_cons_succ, List.getElem?_cons_zero] <;> exact rfl)
          case hs437 => kernel_rfl
          case hf437 => kernel_rfl
          case hr437 => kernel_rfl
          case hQ437 => exact fun _ _ _ h => h
          case hS437 => assumption
          case hy437 => (refine Or.inl ⟨by rfl, ?_⟩; intro w hSw; (try dsimp only at hSw); (first | obtain ⟨z0, z1, z2, z3, z4, z5⟩ := hSw | obtain ⟨z0, z1, z2, z3⟩ := hSw | obtain ⟨z0, z1, z2⟩ := hSw | obtain ⟨z0, z1⟩ := hSw | skip); go_simp; try with_reducible rfl)
          simp only [Act.put, List.setIfInBounds_toArray, List.set_cons_zero, List.set_cons_succ]
          refine wpAnyH_take (i := 10) (oi := ?oi446) (v := ?val446) ?hi446 ?hs446 ?hf446 ?hr446 ?hQ446 ?hy446 ?hS446 ?hrest446
          case hi446 => (simp only [List.getElem?_toArray, List.getElem?_cons_succ, List.getElem?_cons_zero] <;> exact rfl)
          case hs446 => kernel_rfl
          case hf446 => kernel_rfl
          case hr446 => kernel_rfl
          case hQ446 => exact fun _ _ _ h => h
          case hS446 => assumption
          case hy446 => (refine Or.inl ⟨by rfl, ?_⟩; intro w hSw; (try dsimp only at hSw); (first | obtain ⟨z0, z1, z2, z3, z4, z5⟩ := hSw | obtain ⟨z0, z1, z2, z3⟩ := hSw | obtain ⟨z0, z1, z2⟩ := hSw | obtain ⟨z0, z1⟩ := hSw | skip); go_simp; try with_reducible rfl)
          simp only [Act.put, List.setIfInBounds_toArray, List.set_cons_zero, List.set_cons_succ]
          refine wpAnyH_done (by kernel_rfl) ?_ _
          obtain ⟨p1, hS9, hrx9, hW9, hy2, pm⟩ := EV.out _ hV1
          clear hHeld ES ER EV hV0 hV1 b2
          have hkey := key_str (x := y) (by omega)
          obtain ⟨v0, ps, hlook, hv0⟩ := pm.lookup (Maps.string_keyed Try.underlying9) Try.underlying126 (zero_bool _) (boolR_mk false) hkey
          obtain ⟨fo, hfo⟩ : ∃ fo, fo = fnd S y := ⟨_, rfl⟩
          cases fo with
          | some i0 =>
            have e7 : (fnd S y).isSome = true := by rw [← hfo]; rfl
            rw [(HM.out.2 y).2 _ e7] at hv0
            have hv := boolR_inv hv0
            subst hv
            have hlook' : (Instr.lookup 126 (.map (some gm)) (.string y) false).run Try.prog y2 = .ok (.bool true) y2 := hlook
            have hn2 : S = crRow rs cur S0 (X.take (j + 1)) := by rw [Hnx.out, crAdd_some (by rw [← Hy.out]; exact hfo.symm)]
            have hbx2 : ∀ ad, some (⟨b, o, none⟩ : Addr) = some ad → ad.block < y2.heap.size ∧ ad.block ≠ g1 ∧ ad.block ≠ gm := fun ad had => ⟨by have := (Hbx.out ad had).1; omega, (Hbx.out ad had).2⟩
            clear hlook hv0
            have Hfo := Lib.hid hfo
            clear hfo
            have E7 := Lib.hid e7
            clear e7
            have Hn2 := Lib.hid hn2
            clear hn2
            have Hbx2 := Lib.hid hbx2
            clear hbx2
            have HS9 := Lib.hid hS9
            clear hS9
            have Hrx9 := Lib.hid hrx9
            clear hrx9
            have HW9 := Lib.hid hW9
            clear hW9
            have Pm := Lib.hid pm
            clear pm
            have P1 := Lib.hid p1
            clear p1
            go_wp2_with fail
            go_roundw
            case rel => exact ⟨j + 1, S, m, g1, off, c1, nM, D, rfl, by go_num, by omega, HP', Hn2, HM, HZ, hnMe, hg1, hgne, Hbx2, Hrx9.out, HS9.out, HW9.out, Pm.out, P1.out⟩
            case measure => simp [intOf] <;> omega
          | none =>
            have hnh : Maps.has D (.string y.data.toList) = false := by rw [(HM.out.2 y).1, ← hfo]; rfl
            rw [Maps.atKey_of_not_has hnh] at hv0
            have hv := boolR_inv hv0
            subst hv
            have hlook' : (Instr.lookup 126 (.map (some gm)) (.string y) false).run Try.prog y2 = .ok (.bool false) y2 := hlook
            have hgn := crAdd_good Hsy.out HgS.out Hcg.out Hmem.out
            rw [crAdd_none (by rw [← Hy.out]; exact hfo.symm), ← Hy.out] at hgn
            have hln := crGood_len hgn.1
            rw [List.length_append] at hln
            have hln2 : a + m + 1 ≤ 131072 := by have := HP'.out; simp at hln; omega
            obtain ⟨w5, hrun5, hown5, hgrow5⟩ := pm.update (Maps.string_keyed Try.underlying9) Try.underlying126 (by unfold maxLen; omega) hkey (boolR_mk true)
            have hrun5' : (Instr.mapUpdate 126 (.map (some gm)) (.string y) (.bool true)).run Try.prog y2 = .ok () w5 := hrun5
            have hM5 := HM.out.snoc y
            have hZ5 : Maps.size (D.put (.string y.data.toList) (.lit (.bool true))) = a + (m + 1) := by
              rw [Maps.size_put (pm.tidy (Maps.string_keyed Try.underlying9)), hnh, HZ.out]
              simp
              omega
            have hn2 : S ++ [y] = crRow rs cur S0 (X.take (j + 1)) := by rw [Hnx.out, crAdd_none (by rw [← Hy.out]; exact hfo.symm), ← Hy.out]
            have hp2 : a + (m + 1) = (S ++ [y]).length := by rw [List.length_append, ← HP'.out]; simp; omega
            have hds := drop_snoc (Q := S) (a := a) (by omega) y
            have r1 := p1.grown hgrow5 hgne
            have rS := hS9.grownG hgrow5 (by omega)
            have rx := hrx9.grown hgrow5 (fun ad had e => by have h5 := Hbx.out ad had; injection e with e; omega)
            have rW := hW9.grown hgrow5 hW9.size (fun k hk => by injection hk with hk; omega)
            have hsz5 := hgrow5.size
            have r1l := r1.lt
            have hw5 := rW.size
            clear hlook hv0 hrun5 p1 pm hS9 hW9 hrx9 hgrow5 hgn hln
            have Hfo := Lib.hid hfo
            clear hfo
            have Hnh := Lib.hid hnh
            clear hnh
            have HM5 := Lib.hid hM5
            clear hM5
            have HZ5 := Lib.hid hZ5
            clear hZ5
            have Hn2 := Lib.hid hn2
            clear hn2
            have Hp2 := Lib.hid hp2
            clear hp2
            have Hds := Lib.hid hds
            clear hds
            have RS := Lib.hid rS
            clear rS
            have Rx := Lib.hid rx
            clear rx
            have RW := Lib.hid rW
            clear rW
            have Hown5 := Lib.hid hown5
            clear hown5
            go_wp2_with (at_builtin; refine wpList_appO _ _ rfl _ _ 29 rfl w.heap.size 9 16 _ Try.underlying29 info_str rfl g1 off m c1 _ _ rfl rfl rfl r1 rfl (by omega) (by unfold maxLen; omega) (by omega) ?_; intro h1 off1 d1 W1 q1 hG1 hat1)
            have u1 : OwnO W1 h1 w.heap.size off1 9 (m + 1) (strs ((S ++ [y]).drop a)) d1 := by rw [Hds.out]; exact q1
            have um := Hown5.out.kept hG1 (by intro e; injection e with e; omega)
            have uS := RS.out.grownG hG1 (by omega)
            have ux := Rx.out.grown hG1 (fun ad had e => by have h5 := Hbx.out ad had; injection e with e; omega)
            have uW := RW.out.grown hG1 RW.out.size (fun k hk => by injection hk with hk; omega)
            have z1 := hG1.size
            have hm5l := Hown5.out.lt
            have hbx2 : ∀ ad, some (⟨b, o, none⟩ : Addr) = some ad → ad.block < W1.heap.size ∧ ad.block ≠ h1 ∧ ad.block ≠ gm := fun ad had => by have h5 := Hbx.out ad had; omega
            have hm2 : w.heap.size < h1 := by omega
            have hm3 : h1 ≠ gm := by omega
            clear q1
            have U1 := Lib.hid u1
            clear u1
            have Um := Lib.hid um
            clear um
            have US := Lib.hid uS
            clear uS
            have Ux := Lib.hid ux
            clear ux
            have UW := Lib.hid uW
            clear uW
            have Hbx2 := Lib.hid hbx2
            clear hbx2
            go_wp2_with fail
            go_roundw
            case rel => exact ⟨j + 1, S ++ [y], m + 1, h1, off1, d1, nM + 1, _, rfl, by go_num, by omega, Hp2, Hn2, HM5, HZ5, by omega, hm2, hm3, Hbx2, Ux.out, US.out, UW.out, Um.out, U1.out⟩
            case measure => simp [intOf] <;> omega
        · have : j = q := by omega
          subst this
          have hT2 : X.take j = X := List.take_of_length_le (by rw [← Hq.out]; exact Nat.le_refl _)
          have ha131 : a < 131073 := by omega
          have hnext : crAll rs s = crGo rs (131073 - (a + 1)) (a + 1) S := by
            rw [HE.out, crGo_go (by omega) hal, HS'.out, hT2, HX.out, Hcur.out]
            rfl
          obtain ⟨m2, rfl⟩ : ∃ k, m = k + 1 := ⟨m - 1, by omega⟩
          have hdc2 := drop_cons haS
          have hp3 : a + 1 + m2 = S.length := by have := HP'.out; omega
          have hc1 : m2 + 1 ≤ c1 := p1.2.1
          obtain ⟨off2, ho2, p2⟩ : ∃ off2, (if c1 = 1 then (some ⟨g1, off, none⟩ : Option Addr) else some ⟨g1, off + 1, none⟩) = some ⟨g1, off2, none⟩ ∧ OwnO wr g1 w.heap.size off2 9 m2 (strs (S.drop (a + 1))) (c1 - 1) := by
            by_cases hc : c1 = 1
            · have h0 : m2 = 0 := by omega
              subst h0
              have hd0 : S.drop (a + 1) = [] := List.drop_eq_nil_of_le (by omega)
              rw [if_pos hc, hd0, hc]
              exact ⟨off, rfl, p1.none⟩
            · rw [if_neg hc]
              refine ⟨off + 1, rfl, ?_⟩
              rw [hdc2] at p1
              exact p1.tail
          have hz3 : Maps.size D = a + 1 + m2 := by have := HZ.out; omega
          have hml9 : mapLen wr gm = a + (m2 + 1) := by rw [mapLen_eq hmp, HZ.out]
          have hmono : m1 ≤ m2 := by have := HP.out; have := HP'.out; omega
          clear hsub hT p1 hdc2
          have HgS := Lib.hid hgS
          clear hgS
          have Hnext := Lib.hid hnext
          clear hnext
          have HatS := Lib.hid hatS
          clear hatS
          have P2 := Lib.hid p2
          clear p2
          have Hp3 := Lib.hid hp3
          clear hp3
          have Hz3 := Lib.hid hz3
          clear hz3
          have HS := Lib.hid hS
          clear hS
          have HW := Lib.hid hW
          clear hW
          have Hmp := Lib.hid hmp
          clear hmp
          have Ho2 := Lib.hid ho2
          clear ho2
          go_wp2_with fail
          go_roundw
          case rel => exact ⟨a + 1, S, m2, g1, off2, c1 - 1, nM, D, (by rw [← Ho2.out]), Hp3, by omega, HgS, Hnext, HM, Hz3, by omega, by omega, hg1, hgne, HS.out, HW.out, Hmp.out, P2.out⟩
          case measure => simp [slenOf, hml9, hml0] <;> omega
    · have : m = 0 := by omega
      subst this
      have hm0i : ¬ (0 : Int) < ((0 : Nat) : Int) := by omega
      have e1 : crAll rs s = S0 := by rw [HE.out, crGo_end (by rw [← HP.out]; exact Nat.le_refl _)]
      have e2 : crN l rs s = (a : Int) := by rw [E0.out, e1, ← HP.out]; rfl
      have hlen := hmp.len Try.underlying126
      rw [HZ.out] at hlen
      have hlen2 : ∀ ty, (Builtin.len_ #[126] ty #[.map (some gm)]).run Try.prog wr = .ok (.int .i64 (a : Int)) wr := fun ty => hlen ty
      clear hlen
      have E1 := Lib.hid e1
      clear e1
      have E2 := Lib.hid e2
      clear e2
      go_wp2_with fail
      go_ret
      exact ⟨ret_int (by rw [E2.out]), hW⟩

end Go.Proofs.Ytidmbeeadbedaaa
