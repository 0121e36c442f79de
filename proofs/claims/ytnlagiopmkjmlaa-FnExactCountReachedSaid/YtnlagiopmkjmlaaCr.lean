/- Walks over l04Has and CountReached of the reference. -/
import Derived.Test.YtnlagiopmkjmlaaCrP
import Derived.Test.YtnlagiopmkjmlaaSearch
import Derived.Test.YtnlagiopmkjmlaaTakes
namespace Go.Proofs.Ytnlagiopmkjmlaa
open Go.RowKit Go.Shelf

set_option maxRecDepth 100000 in
set_option maxHeartbeats 1000000 in
theorem specHas_any (A : Option Addr) (n c : Nat) (ws : List ByteArray) (s : ByteArray) (w : World) (hr : Rd w A (strs ws)) (hn : n = ws.length) (hb : n ≤ 9223372036854775806) :
    Calls Try.prog 83 #[.slice A n c, .string s] w (fun e w' => e = .returned (.bool (fnd ws s).isSome) ∧ w' = w) := by
  have Hr := Lib.hid hr
  clear hr
  have Hn := Lib.hid hn
  clear hn
  go_enter Try.func83, Try.ntmps83
  go_wp2_with fail
  go_loopw [9] (fun i wr => ∃ (j : Nat), j ≤ n ∧ i = .int .i64 j ∧ Hid (∀ k y, k < j → ws[k]? = some y → y ≠ s) ∧ wr = w) (fun i _ => n - (intOf i).toNat)
  case atStart => exact ⟨0, Nat.zero_le _, rfl, Lib.hid (fun k y hk => absurd hk (Nat.not_lt_zero _)), rfl⟩
  case round =>
    obtain ⟨j, hj, rfl, HN, rfl⟩ := hrel
    by_cases hlt : j < n
    · have hj2 : j < ws.length := by rw [← Hn.out]; exact hlt
      obtain ⟨b, o, hA, hbl, p0⟩ := rd_Str Hr.out hj2
      obtain ⟨y, hy⟩ : ∃ y, y = ws[j] := ⟨_, rfl⟩
      have hy2 : ws[j]? = some y := by rw [hy]; exact List.getElem?_eq_getElem hj2
      rw [← hy] at p0
      subst hA
      have hq := str_eq y s
      by_cases hys : y = s
      · have e1 : (fnd ws s).isSome = true := by have h5 := fnd_hit hj2 HN.out (by rw [hy2, hys]); rw [h5]; rfl
        rw [decide_eq_true hys] at hq
        clear hy hj2
        have Hy2 := Lib.hid hy2
        clear hy2
        have E1 := Lib.hid e1
        clear e1
        have Hys := Lib.hid hys
        clear hys
        go_wp2_with fail
        go_ret
        exact ⟨ret_bool (by rw [E1.out]), rfl⟩
      · have hN2 : ∀ k z, k < j + 1 → ws[k]? = some z → z ≠ s := fun k z hk hz => by
          by_cases e : k = j
          · subst e
            rw [hy2] at hz
            injection hz with hz
            rw [← hz]; exact hys
          · exact HN.out k z (by omega) hz
        rw [decide_eq_false hys] at hq
        clear hy hj2
        have Hy2 := Lib.hid hy2
        clear hy2
        have HN2 := Lib.hid hN2
        clear hN2
        have Hys := Lib.hid hys
        clear hys
        go_wp2_with fail
        go_roundw
        case rel => exact ⟨j + 1, by omega, by go_num, HN2, by first | rfl | trivial⟩
        case measure => simp [intOf] <;> omega
    · have : j = n := by omega
      subst this
      have e1 : (fnd ws s).isSome = false := by have h5 := fnd_miss (fun k y hk => HN.out k y (by rw [Hn.out]; exact hk)); rw [h5]; rfl
      have E1 := Lib.hid e1
      clear e1
      go_wp2_with fail
      go_ret
      exact ⟨ret_bool (by rw [E1.out]), rfl⟩

set_option maxRecDepth 100000 in
set_option maxHeartbeats 4000000 in
theorem specCountReached_any (l : Int) (A : Option Addr) (n c : Nat) (rs : List RuleT) (s : ByteArray) (w : World) (hr : Rd w A (cellsRule rs)) (hn : n = rs.length) (hb : n ≤ 1048576) (hz : ∀ x ∈ rs, x.1.size ≤ 1048576 ∧ x.2.size ≤ 1048576) (hs : s.size ≤ 1048576) :
    Calls Try.prog 34 #[.agg #[.int .i64 l, .slice A n c], .string s] w (Kept w (.int .i64 (crN l rs s))) := by
  have hW0 : Below w.heap.size w (w.alloc (.cells #[.int .i64 l, .slice A n c] 29)) := (Below.refl _ _).alloc (Nat.le_refl _) _
  have hS0 := Bk.new w 29 #[.int .i64 l, .slice A n c]
  have Hr := Lib.hid hr
  clear hr
  have Hn := Lib.hid hn
  clear hn
  have Hz := Lib.hid hz
  clear hz
  go_enter Try.func34, Try.ntmps34
  go_wp2_with fail
  with_reducible refine (specTakes_any l A n c rs s _ (Hr.out.keep hW0) Hn.out hb Hz.out hs).mono ?_
  rintro e w1 ⟨rfl, b1⟩
  have hW1 := hW0.trans (b1.mono hW0.size)
  have hS1 := hS0.below b1 hS0.lt
  have s0_1 : w1.cell? ⟨w.heap.size, 0, none⟩ = some (.int .i64 l) := by rw [hS1.cell]; rfl
  have s1_1 : w1.cell? ⟨w.heap.size, 1, none⟩ = some (.slice A n c) := by rw [hS1.cell]; rfl
  have sl_1 := hS1.lt
  clear b1
  obtain ⟨r1, hrr⟩ : ∃ r', r' = (takesOk l rs s) := ⟨_, rfl⟩
  rw [← hrr]
  have H1 := Lib.hid hrr
  clear hrr
  cases r1
  · have e1 : crN l rs s = -1 := by rw [crN, ← H1.out]; rfl
    have E1 := Lib.hid e1
    clear e1
    go_wp2_with fail
    go_ret
    exact ⟨ret_int (by rw [E1.out]), hW1⟩
  by_cases h8 : s.size ≤ 8
  rotate_left
  · have h8i : (8 : Int) < (s.size : Int) := by omega
    have e1 : crN l rs s = -1 := by rw [crN, ← H1.out, decide_eq_false h8]; rfl
    have E1 := Lib.hid e1
    clear e1
    go_wp2_with fail
    go_ret
    exact ⟨ret_int (by rw [E1.out]), hW1⟩
  have h8i : ¬ (8 : Int) < (s.size : Int) := by omega
  obtain ⟨hsy, hro, hg8⟩ := takes8 H1.out.symm h8
  have e0 : crN l rs s = ((crAll rs s).length : Int) := by rw [crN, ← H1.out, decide_eq_true h8]; rfl
  have hgd := crGood_one hg8
  have o1 : OwnG (w1.alloc (.cells #[.string s] 9)) w1.heap.size w.heap.size 9 1 1 (strs [s]) 1 := OwnG.new w1 9 #[.string s] w.heap.size 1 1 hW1.size rfl (by unfold maxLen; omega)
  have hS2 := hS1.alloc (.cells #[.string s] 9)
  have hW2 := hW1.alloc hW1.size (.cells #[.string s] 9)
  have hgw : w.heap.size < w1.heap.size := sl_1
  clear hS1 hW1
  have Hsy := Lib.hid hsy
  clear hsy
  have Hro := Lib.hid hro
  clear hro
  have Hg8 := Lib.hid hg8
  clear hg8
  have E0 := Lib.hid e0
  clear e0
  have Hgd := Lib.hid hgd
  clear hgd
  have O1 := Lib.hid o1
  clear o1
  have HS2 := Lib.hid hS2
  clear hS2
  have HW2 := Lib.hid hW2
  clear hW2
  go_wp2_with fail
  clear s0_1 s1_1 sl_1
  go_loopw [5, 6] (fun v1 i wr => ∃ (a : Nat) (Q : List ByteArray) (p g1 c1 : Nat), v1 = .slice (some ⟨g1, 0, none⟩) p c1 ∧ i = .int .i64 a ∧ Hid (p = Q.length) ∧ a ≤ p ∧ Hid (crGood l Q) ∧ Hid (crAll rs s = crGo rs (131073 - a) a Q) ∧ w.heap.size < g1 ∧ Bk wr w.heap.size 29 #[.int .i64 l, .slice A n c] ∧ Below w.heap.size w wr ∧ OwnG wr g1 w.heap.size 9 1 p (strs Q) c1) (fun _ i _ => 131073 - (intOf i).toNat)
  case atStart => exact ⟨0, [s], 1, _, _, rfl, rfl, Lib.hid rfl, by omega, Hgd, Lib.hid rfl, hgw, HS2.out, HW2.out, O1.out⟩
  case round =>
    clear HS2 HW2 O1 Hgd
    obtain ⟨a, S0, p, g1, c1, rfl, rfl, HP, hap, HG, HE, hg1, hS, hW, o1⟩ := hrel
    have hpl : p ≤ 131072 := by rw [HP.out]; exact crGood_len HG.out
    by_cases hlt : a < p
    · have hal : a < S0.length := by rw [← HP.out]; exact hlt
      obtain ⟨cur, hcur⟩ : ∃ x, x = wAt S0 a := ⟨_, rfl⟩
      have hcg : good8 l cur := by rw [hcur]; exact HG.out.2 _ (wAt_mem hal)
      have hcz := hcg.2.2
      have hcw := wAt_cell hal
      rw [← hcur] at hcw
      have hsl := hS.lt
      have h1l := o1.2
      have k1 := o1.cell hcw
      have eS : ∀ W, Below wr.heap.size wr W → W.cell? ⟨w.heap.size, 0, none⟩ = some (.int .i64 l) ∧ W.cell? ⟨w.heap.size, 1, none⟩ = some (.slice A n c) ∧ W.cell? ⟨g1, a, none⟩ = some (.string cur) := fun W h => ⟨by rw [(hS.below h hS.lt).cell]; rfl, by rw [(hS.below h hS.lt).cell]; rfl, (h.cell (p := ⟨g1, a, none⟩) h1l).trans k1⟩
      have hV0 : Below wr.heap.size wr wr.drew := (Below.refl _ _).drew
      have eR : ∀ W, Below wr.heap.size wr W → Rd W A (cellsRule rs) := fun W h => Hr.out.keep (hW.trans (h.mono hW.size))
      obtain ⟨X, hX⟩ : ∃ X, X = stepAcc rs cur cur.size := ⟨_, rfl⟩
      have hXs : stepsOf l rs cur = X := by rw [stepsOf, Hro.out, hX]; rfl
      obtain ⟨q, hq⟩ : ∃ q, q = X.length := ⟨_, rfl⟩
      have hqb : q ≤ 96 := by
        rw [hq, hX]
        refine Nat.le_trans (stepAcc_len rs cur cur.size) ?_
        have := rulesOk_12 Hro.out
        calc cur.size * rs.length ≤ 8 * 12 := Nat.mul_le_mul hcz this
          _ = 96 := rfl
      have hSt := fun (W : World) (hw : Rd W A (cellsRule rs)) => specSteps_any l A n c rs cur W hw Hn.out hb Hz.out (by omega)
      rw [hXs, ← hq] at hSt
      have ES := Lib.hid eS
      clear eS
      have ER := Lib.hid eR
      clear eR
      have Hcur := Lib.hid hcur
      clear hcur
      have HX := Lib.hid hX
      clear hX
      have HXs := Lib.hid hXs
      clear hXs
      have Hq := Lib.hid hq
      clear hq
      have Hcg := Lib.hid hcg
      clear hcg
      have Hcw := Lib.hid hcw
      clear hcw
      have HS := Lib.hid hS
      clear hS
      have HW := Lib.hid hW
      clear hW
      have O1 := Lib.hid o1
      clear o1
      have HSt := Lib.hid hSt
      clear hSt
      clear k1
      go_wp2_with fail
      refine wp_region_held_drew (S := (fun W => W.cell? ⟨w.heap.size, 0, none⟩ = some (.int .i64 l) ∧ W.cell? ⟨w.heap.size, 1, none⟩ = some (.slice A n c) ∧ W.cell? ⟨g1, a, none⟩ = some (.string cur))) (by kernel_rfl) (ES.out _ hV0) (fun hHeld => ?_)
      refine wpAnyH_take (i := 0) (oi := ?oi196) (v := ?val196) ?hi196 ?hs196 ?hf196 ?hr196 ?hQ196 ?hy196 ?hS196 ?hrest196
      case hi196 => (simp only [List.getElem?_toArray, List.getElem?_cons_succ, List.getElem?_cons_zero] <;> exact rfl)
      case hs196 => kernel_rfl
      case hf196 => kernel_rfl
      case hr196 => kernel_rfl
      case hQ196 => exact fun _ _ _ h => h
      case hS196 => assumption
      case hy196 => (refine Or.inl ⟨by rfl, ?_⟩; intro w hSw; (try dsimp only at hSw); (first | obtain ⟨z0, z1, z2, z3, z4, z5⟩ := hSw | obtain ⟨z0, z1, z2, z3⟩ := hSw | obtain ⟨z0, z1, z2⟩ := hSw | obtain ⟨z0, z1⟩ := hSw | skip); go_simp; try with_reducible rfl)
      simp only [Act.put, List.setIfInBounds_toArray, List.set_cons_zero, List.set_cons_succ]
      refine wpAnyH_take (i := 1) (oi := ?oi205) (v := ?val205) ?hi205 ?hs205 ?hf205 ?hr205 ?hQ205 ?hy205 ?hS205 ?hrest205
      case hi205 => (simp only [List.getElem?_toArray, List.getElem?_cons_succ, List.getElem?_cons_zero] <;> exact rfl)
      case hs205 => kernel_rfl
      case hf205 => kernel_rfl
      case hr205 => kernel_rfl
      case hQ205 => exact fun _ _ _ h => h
      case hS205 => assumption
      case hy205 => (refine Or.inl ⟨by rfl, ?_⟩; intro w hSw; (try dsimp only at hSw); (first | obtain ⟨z0, z1, z2, z3, z4, z5⟩ := hSw | obtain ⟨z0, z1, z2, z3⟩ := hSw | obtain ⟨z0, z1, z2⟩ := hSw | obtain ⟨z0, z1⟩ := hSw | skip); go_simp; try with_reducible rfl)
      simp only [Act.put, List.setIfInBounds_toArray, List.set_cons_zero, List.set_cons_succ]
      refine wpAnyH_take (i := 2) (oi := ?oi214) (v := ?val214) ?hi214 ?hs214 ?hf214 ?hr214 ?hQ214 ?hy214 ?hS214 ?hrest214
      case hi214 => (simp only [List.getElem?_toArray, List.getElem?_cons_succ, List.getElem?_cons_zero] <;> exact rfl)
      case hs214 => kernel_rfl
      case hf214 => kernel_rfl
      case hr214 => kernel_rfl
      case hQ214 => exact fun _ _ _ h => h
      case hS214 => assumption
      case hy214 => (refine Or.inl ⟨by rfl, ?_⟩; intro w hSw; (try dsimp only at hSw); (first | obtain ⟨z0, z1, z2, z3, z4, z5⟩ := hSw | obtain ⟨z0, z1, z2, z3⟩ := hSw | obtain ⟨z0, z1, z2⟩ := hSw | obtain ⟨z0, z1⟩ := hSw | skip); go_simp; try with_reducible rfl)
      simp only [Act.put, List.setIfInBounds_toArray, List.set_cons_zero, List.set_cons_succ]
      refine wpAnyH_take (i := 3) (oi := ?oi223) (v := ?val223) ?hi223 ?hs223 ?hf223 ?hr223 ?hQ223 ?hy223 ?hS223 ?hrest223
      case hi223 => (simp only [List.getElem?_toArray, List.getElem?_cons_succ, List.getElem?_cons_zero] <;> exact rfl)
      case hs223 => kernel_rfl
      case hf223 => kernel_rfl
      case hr223 => kernel_rfl
      case hQ223 => exact fun _ _ _ h => h
      case hS223 => assumption
      case hy223 => (refine Or.inl ⟨by rfl, ?_⟩; intro w hSw; (try dsimp only at hSw); (first | obtain ⟨z0, z1, z2, z3, z4, z5⟩ := hSw | obtain ⟨z0, z1, z2, z3⟩ := hSw | obtain ⟨z0, z1, z2⟩ := hSw | obtain ⟨z0, z1⟩ := hSw | skip); go_simp; try with_reducible rfl)
      simp only [Act.put, List.setIfInBounds_toArray, List.set_cons_zero, List.set_cons_succ]
      refine wpAnyH_take (i := 4) (oi := ?oi232) (v := ?val232) ?hi232 ?hs232 ?hf232 ?hr232 ?hQ232 ?hy232 ?hS232 ?hrest232
      case hi232 => (simp only [List.getElem?_toArray, List.getElem?_cons_succ, List.getElem?_cons_zero] <;> exact rfl)
      case hs232 => kernel_rfl
      case hf232 => kernel_rfl
      case hr232 => kernel_rfl
      case hQ232 => exact fun _ _ _ h => h
      case hS232 => assumption
      case hy232 => (refine Or.inl ⟨by rfl, ?_⟩; intro w hSw; (try dsimp only at hSw); (first | obtain ⟨z0, z1, z2, z3, z4, z5⟩ := hSw | obtain ⟨z0, z1, z2, z3⟩ := hSw | obtain ⟨z0, z1, z2⟩ := hSw | obtain ⟨z0, z1⟩ := hSw | skip); go_simp; try with_reducible rfl)
      simp only [Act.put, List.setIfInBounds_toArray, List.set_cons_zero, List.set_cons_succ]
      refine wpAnyH_take (i := 7) (oi := ?oi241) (v := ?val241) ?hi241 ?hs241 ?hf241 ?hr241 ?hQ241 ?hy241 ?hS241 ?hrest241
      case hi241 => (simp only [List.getElem?_toArray, List.getElem?_cons_succ, List.getElem?_cons_zero] <;> exact rfl)
      case hs241 => kernel_rfl
      case hf241 => kernel_rfl
      case hr241 => kernel_rfl
      case hQ241 => exact fun _ _ _ h => h
      case hS241 => assumption
      case hy241 => (refine Or.inl ⟨by rfl, ?_⟩; intro w hSw; (try dsimp only at hSw); (first | obtain ⟨z0, z1, z2, z3, z4, z5⟩ := hSw | obtain ⟨z0, z1, z2, z3⟩ := hSw | obtain ⟨z0, z1, z2⟩ := hSw | obtain ⟨z0, z1⟩ := hSw | skip); go_simp; try with_reducible rfl)
      simp only [Act.put, List.setIfInBounds_toArray, List.set_cons_zero, List.set_cons_succ]
      refine wpAnyH_ready (rs := [5]) (by kernel_rfl) (by simp) ?_
      refine AllReadyH.cons rfl (fun K hK => ?_) AllReadyH.nil
      (go_simp; ((with_reducible refine (HSt.out _ (ER.out _ hV0)).mono ?_); rintro e y1 ⟨B, d, rfl, hOX, b1⟩; have hV1 := hV0.trans (b1.mono hV0.size)))
      refine hK.out _ _ (ES.out _ hV1) (fun hHeld2 => ?_)
      clear hK K hHeld
      have hHeld := hHeld2
      clear hHeld2
      first | simp only [Act.put, List.setIfInBounds_toArray, List.set_cons_zero, List.set_cons_succ] | skip
      refine wpAnyH_take (i := 6) (oi := ?oi258) (v := ?val258) ?hi258 ?hs258 ?hf258 ?hr258 ?hQ258 ?hy258 ?hS258 ?hrest258
      case hi258 => (simp only [List.getElem?_toArray, List.getElem?_cons_succ, List.getElem?_cons_zero] <;> exact rfl)
      case hs258 => kernel_rfl
      case hf258 => kernel_rfl
      case hr258 => kernel_rfl
      case hQ258 => exact fun _ _ _ h => h
      case hS258 => assumption
      case hy258 => (refine Or.inl ⟨by rfl, ?_⟩; intro w hSw; (try dsimp only at hSw); (first | obtain ⟨z0, z1, z2, z3, z4, z5⟩ := hSw | obtain ⟨z0, z1, z2, z3⟩ := hSw | obtain ⟨z0, z1, z2⟩ := hSw | obtain ⟨z0, z1⟩ := hSw | skip); go_simp; try with_reducible rfl)
      simp only [Act.put, List.setIfInBounds_toArray, List.set_cons_zero, List.set_cons_succ]
      refine wpAnyH_done (by kernel_rfl) ?_ _
      have hrx := Rd.of_own hOX
      have hbx : ∀ ad, B = some ad → ad.block < y1.heap.size ∧ ad.block ≠ g1 := fun ad had => by
        have hl := hOX.lt ad.block (by rw [had]; rfl)
        have hl2 : wr.heap.size ≤ ad.block := hl.1
        have := O1.out.2
        exact ⟨hl.2, by omega⟩
      have p1 := O1.out.below hV1
      have hS1 := HS.out.below hV1 HS.out.lt
      have hW1 := HW.out.trans (hV1.mono HW.out.size)
      clear hHeld O1 HS HW ES ER hOX hV0 hV1 b1 Hcw h1l hsl HSt
      have Hrx := Lib.hid hrx
      clear hrx
      have Hbx := Lib.hid hbx
      clear hbx
      have P1 := Lib.hid p1
      clear p1
      have HS1 := Lib.hid hS1
      clear hS1
      have HW1 := Lib.hid hW1
      clear hW1
      go_wp2_with fail
      go_loopw [5, 35] (fun v1 i wr => ∃ (j : Nat) (Q : List ByteArray) (p g1 c1 : Nat), v1 = .slice (some ⟨g1, 0, none⟩) p c1 ∧ i = .int .i64 j ∧ j ≤ q ∧ Hid (p = Q.length) ∧ Hid (Q = crRow rs cur S0 (X.take j)) ∧ w.heap.size < g1 ∧ Hid (∀ ad, B = some ad → ad.block < wr.heap.size ∧ ad.block ≠ g1) ∧ Rd wr B (cellsStep X) ∧ Bk wr w.heap.size 29 #[.int .i64 l, .slice A n c] ∧ Below w.heap.size w wr ∧ OwnG wr g1 w.heap.size 9 1 p (strs Q) c1) (fun _ i _ => q - (intOf i).toNat)
      case atStart => exact ⟨0, S0, p, g1, c1, rfl, rfl, Nat.zero_le _, HP, Lib.hid rfl, hg1, Hbx, Hrx.out, HS1.out, HW1.out, P1.out⟩
      case round =>
        clear Hrx Hbx P1 HS1 HW1 HP hlt hap hpl hg1
        obtain ⟨j, S, p, g1, c1, rfl, rfl, hj, HP, HS', hg1, Hbx, hrx, hS, hW, p1⟩ := hrel
        have hsub : ∀ (J : Nat), ∀ x ∈ X.take J, x ∈ stepAcc rs cur cur.size := fun J x hx => by rw [← HX.out]; exact List.mem_of_mem_take hx
        obtain ⟨hgS, T, hT⟩ := crRow_good Hsy.out Hcg.out (X.take j) S0 HG.out (hsub j)
        rw [← HS'.out] at hgS hT
        have hpl : p ≤ 131072 := by rw [HP.out]; exact crGood_len hgS
        have hS0l : S0.length ≤ S.length := by rw [hT, List.length_append]; omega
        have haS : a < S.length := by omega
        have hatS : wAt S a = wAt S0 a := by rw [hT]; exact wAt_app hal
        by_cases hlt : j < q
        · have hj2 : j < X.length := by rw [← Hq.out]; exact hlt
          obtain ⟨b, o, hB, hbl, x0c, x1c⟩ := rd_Step hrx hj2
          obtain ⟨⟨x0, x1⟩, hx⟩ : ∃ x, x = X[j] := ⟨_, rfl⟩
          rw [← hx] at x0c x1c
          dsimp only at x0c x1c
          have htk : X.take (j + 1) = X.take j ++ [(x0, x1)] := by rw [hx]; exact List.take_succ_eq_append_getElem hj2
          have hnx : crRow rs cur S0 (X.take (j + 1)) = crAdd rs cur S (x0, x1) := by rw [htk, crRow_snoc, ← HS'.out]
          have hmem : (x0, x1) ∈ stepsOf l rs cur := by rw [HXs.out, hx]; exact List.getElem_mem hj2
          subst hB
          have hap3 : a < p := by rw [HP.out]; exact haS
          have hcw := wAt_cell haS
          rw [hatS, ← Hcur.out] at hcw
          have l1 := p1.2
          have hB8 := Bk.new wr 106 #[.int .i64 x0, .int .i64 x1]
          have hS8 := hS.alloc (.cells #[.int .i64 x0, .int .i64 x1] 106)
          have hW8 := hW.alloc hW.size (.cells #[.int .i64 x0, .int .i64 x1] 106)
          have k1 := (p1.alloc (.cells #[.int .i64 x0, .int .i64 x1] 106)).cell hcw
          have hwl : wr.heap.size < (World.alloc wr (.cells #[.int .i64 x0, .int .i64 x1] 106)).heap.size := by simp
          have eS : ∀ W, Below (World.alloc wr (.cells #[.int .i64 x0, .int .i64 x1] 106)).heap.size (World.alloc wr (.cells #[.int .i64 x0, .int .i64 x1] 106)) W → W.cell? ⟨w.heap.size, 0, none⟩ = some (.int .i64 l) ∧ W.cell? ⟨w.heap.size, 1, none⟩ = some (.slice A n c) ∧ W.cell? ⟨g1, a, none⟩ = some (.string cur) ∧ W.cell? ⟨wr.heap.size, 0, none⟩ = some (.int .i64 x0) ∧ W.cell? ⟨wr.heap.size, 1, none⟩ = some (.int .i64 x1) := fun W h => ⟨by rw [(hS8.below h hS8.lt).cell]; rfl, by rw [(hS8.below h hS8.lt).cell]; rfl, (h.cell (p := ⟨g1, a, none⟩) (Nat.lt_trans l1 hwl)).trans k1, by rw [(hB8.below h hB8.lt).cell]; rfl, by rw [(hB8.below h hB8.lt).cell]; rfl⟩
          have hV0 : Below (World.alloc wr (.cells #[.int .i64 x0, .int .i64 x1] 106)).heap.size (World.alloc wr (.cells #[.int .i64 x0, .int .i64 x1] 106)) (World.alloc wr (.cells #[.int .i64 x0, .int .i64 x1] 106)).drew := (Below.refl _ _).drew
          have eR : ∀ W, Below (World.alloc wr (.cells #[.int .i64 x0, .int .i64 x1] 106)).heap.size (World.alloc wr (.cells #[.int .i64 x0, .int .i64 x1] 106)) W → Rd W A (cellsRule rs) := fun W h => Hr.out.keep (hW8.trans (h.mono hW8.size))
          obtain ⟨y, hy⟩ : ∃ y, y = applyS rs cur (x0, x1) := ⟨_, rfl⟩
          obtain ⟨ky, hky⟩ : ∃ k, k = asOk l rs cur (x0, x1) := ⟨_, rfl⟩
          have e5 : asS l rs cur (x0, x1) = y := by rw [(as_yes hmem).2, hy]
          have eV : ∀ W, Below (World.alloc wr (.cells #[.int .i64 x0, .int .i64 x1] 106)).heap.size (World.alloc wr (.cells #[.int .i64 x0, .int .i64 x1] 106)) W → OwnG W g1 w.heap.size 9 1 p (strs S) c1 ∧ Bk W w.heap.size 29 #[.int .i64 l, .slice A n c] ∧ Rd W (some ⟨b, o, none⟩) (cellsStep X) ∧ Below w.heap.size w W ∧ wr.heap.size < W.heap.size := fun W h => ⟨(p1.alloc _).below h, hS8.below h hS8.lt, (hrx.keep ((Below.refl _ wr).alloc (Nat.le_refl _) _)).keep h, hW8.trans (h.mono hW8.size), Nat.lt_of_lt_of_le hwl h.size⟩
          have hslS := hS.lt
          clear k1 hS8 hW8 hB8 p1 hS hW
          have ES := Lib.hid eS
          clear eS
          have ER := Lib.hid eR
          clear eR
          have EV := Lib.hid eV
          clear eV
          have Hx := Lib.hid hx
          clear hx
          have Htk := Lib.hid htk
          clear htk
          have Hnx := Lib.hid hnx
          clear hnx
          have HgS := Lib.hid hgS
          clear hgS
          have HT := Lib.hid hT
          clear hT
          have HatS := Lib.hid hatS
          clear hatS
          have Hcw := Lib.hid hcw
          clear hcw
          have E5 := Lib.hid e5
          clear e5
          have Hy := Lib.hid hy
          clear hy
          have Hky := Lib.hid hky
          clear hky
          have Hrx := Lib.hid hrx
          clear hrx
          have Hsub := Lib.hid hsub
          clear hsub
          have Hmem := Lib.hid hmem
          clear hmem
          go_wp2_with fail
          refine wp_region_held_drew (S := (fun W => W.cell? ⟨w.heap.size, 0, none⟩ = some (.int .i64 l) ∧ W.cell? ⟨w.heap.size, 1, none⟩ = some (.slice A n c) ∧ W.cell? ⟨g1, a, none⟩ = some (.string cur) ∧ W.cell? ⟨wr.heap.size, 0, none⟩ = some (.int .i64 x0) ∧ W.cell? ⟨wr.heap.size, 1, none⟩ = some (.int .i64 x1))) (by kernel_rfl) (ES.out _ hV0) (fun hHeld => ?_)
          refine wpAnyH_take (i := 0) (oi := ?oi363) (v := ?val363) ?hi363 ?hs363 ?hf363 ?hr363 ?hQ363 ?hy363 ?hS363 ?hrest363
          case hi363 => (simp only [List.getElem?_toArray, List.getElem?_cons_succ, List.getElem?_cons_zero] <;> exact rfl)
          case hs363 => kernel_rfl
          case hf363 => kernel_rfl
          case hr363 => kernel_rfl
          case hQ363 => exact fun _ _ _ h => h
          case hS363 => assumption
          case hy363 => (refine Or.inl ⟨by rfl, ?_⟩; intro w hSw; (try dsimp only at hSw); (first | obtain ⟨z0, z1, z2, z3, z4, z5⟩ := hSw | obtain ⟨z0, z1, z2, z3⟩ := hSw | obtain ⟨z0, z1, z2⟩ := hSw | obtain ⟨z0, z1⟩ := hSw | skip); go_simp; try with_reducible rfl)
          simp only [Act.put, List.setIfInBounds_toArray, List.set_cons_zero, List.set_cons_succ]
          refine wpAnyH_take (i := 1) (oi := ?oi372) (v := ?val372) ?hi372 ?hs372 ?hf372 ?hr372 ?hQ372 ?hy372 ?hS372 ?hrest372
          case hi372 => (simp only [List.getElem?_toArray, List.getElem?_cons_succ, List.getElem?_cons_zero] <;> exact rfl)
          case hs372 => kernel_rfl
          case hf372 => kernel_rfl
          case hr372 => kernel_rfl
          case hQ372 => exact fun _ _ _ h => h
          case hS372 => assumption
          case hy372 => (refine Or.inl ⟨by rfl, ?_⟩; intro w hSw; (try dsimp only at hSw); (first | obtain ⟨z0, z1, z2, z3, z4, z5⟩ := hSw | obtain ⟨z0, z1, z2, z3⟩ := hSw | obtain ⟨z0, z1, z2⟩ := hSw | obtain ⟨z0, z1⟩ := hSw | skip); go_simp; try with_reducible rfl)
          simp only [Act.put, List.setIfInBounds_toArray, List.set_cons_zero, List.set_cons_succ]
          refine wpAnyH_take (i := 2) (oi := ?oi381) (v := ?val381) ?hi381 ?hs381 ?hf381 ?hr381 ?hQ381 ?hy381 ?hS381 ?hrest381
          case hi381 => (simp only [List.getElem?_toArray, List.getElem?_cons_succ, List.getElem?_cons_zero] <;> exact rfl)
          case hs381 => kernel_rfl
          case hf381 => kernel_rfl
          case hr381 => kernel_rfl
          case hQ381 => exact fun _ _ _ h => h
          case hS381 => assumption
          case hy381 => (refine Or.inl ⟨by rfl, ?_⟩; intro w hSw; (try dsimp only at hSw); (first | obtain ⟨z0, z1, z2, z3, z4, z5⟩ := hSw | obtain ⟨z0, z1, z2, z3⟩ := hSw | obtain ⟨z0, z1, z2⟩ := hSw | obtain ⟨z0, z1⟩ := hSw | skip); go_simp; try with_reducible rfl)
          simp only [Act.put, List.setIfInBounds_toArray, List.set_cons_zero, List.set_cons_succ]
          refine wpAnyH_take (i := 3) (oi := ?oi390) (v := ?val390) ?hi390 ?hs390 ?hf390 ?hr390 ?hQ390 ?hy390 ?hS390 ?hrest390
          case hi390 => (simp only [List.getElem?_toArray, List.getElem?_cons_succ, List.getElem?_cons_zero] <;> exact rfl)
          case hs390 => kernel_rfl
          case hf390 => kernel_rfl
          case hr390 => kernel_rfl
          case hQ390 => exact fun _ _ _ h => h
          case hS390 => assumption
          case hy390 => (refine Or.inl ⟨by rfl, ?_⟩; intro w hSw; (try dsimp only at hSw); (first | obtain ⟨z0, z1, z2, z3, z4, z5⟩ := hSw | obtain ⟨z0, z1, z2, z3⟩ := hSw | obtain ⟨z0, z1, z2⟩ := hSw | obtain ⟨z0, z1⟩ := hSw | skip); go_simp; try with_reducible rfl)
          simp only [Act.put, List.setIfInBounds_toArray, List.set_cons_zero, List.set_cons_succ]
          refine wpAnyH_take (i := 4) (oi := ?oi399) (v := ?val399) ?hi399 ?hs399 ?hf399 ?hr399 ?hQ399 ?hy399 ?hS399 ?hrest399
          case hi399 => (simp only [List.getElem?_toArray, List.getElem?_cons_succ, List.getElem?_cons_zero] <;> exact rfl)
          case hs399 => kernel_rfl
          case hf399 => kernel_rfl
          case hr399 => kernel_rfl
          case hQ399 => exact fun _ _ _ h => h
          case hS399 => assumption
          case hy399 => (refine Or.inl ⟨by rfl, ?_⟩; intro w hSw; (try dsimp only at hSw); (first | obtain ⟨z0, z1, z2, z3, z4, z5⟩ := hSw | obtain ⟨z0, z1, z2, z3⟩ := hSw | obtain ⟨z0, z1, z2⟩ := hSw | obtain ⟨z0, z1⟩ := hSw | skip); go_simp; try with_reducible rfl)
          simp only [Act.put, List.setIfInBounds_toArray, List.set_cons_zero, List.set_cons_succ]
          refine wpAnyH_take (i := 5) (oi := ?oi408) (v := ?val408) ?hi408 ?hs408 ?hf408 ?hr408 ?hQ408 ?hy408 ?hS408 ?hrest408
          case hi408 => (simp only [List.getElem?_toArray, List.getElem?_cons_succ, List.getElem?_cons_zero] <;> exact rfl)
          case hs408 => kernel_rfl
          case hf408 => kernel_rfl
          case hr408 => kernel_rfl
          case hQ408 => exact fun _ _ _ h => h
          case hS408 => assumption
          case hy408 => (refine Or.inl ⟨by rfl, ?_⟩; intro w hSw; (try dsimp only at hSw); (first | obtain ⟨z0, z1, z2, z3, z4, z5⟩ := hSw | obtain ⟨z0, z1, z2, z3⟩ := hSw | obtain ⟨z0, z1, z2⟩ := hSw | obtain ⟨z0, z1⟩ := hSw | skip); go_simp; try with_reducible rfl)
          simp only [Act.put, List.setIfInBounds_toArray, List.set_cons_zero, List.set_cons_succ]
          refine wpAnyH_ready (rs := [6]) (by kernel_rfl) (by simp) ?_
          refine AllReadyH.cons rfl (fun K hK => ?_) AllReadyH.nil
          (go_simp; ((with_reducible refine (specApplyStep_any l A n c rs cur x0 x1 _ (ER.out _ hV0) Hn.out hb Hz.out (by omega)).mono ?_); rintro e y2 ⟨rfl, b2⟩; rw [E5.out, ← Hky.out]; have hV1 := hV0.trans (b2.mono hV0.size)))
          refine hK.out _ _ (ES.out _ hV1) (fun hHeld2 => ?_)
          clear hK K hHeld
          have hHeld := hHeld2
          clear hHeld2
          first | simp only [Act.put, List.setIfInBounds_toArray, List.set_cons_zero, List.set_cons_succ] | skip
          refine wpAnyH_take (i := 7) (oi := ?oi425) (v := ?val425) ?hi425 ?hs425 ?hf425 ?hr425 ?hQ425 ?hy425 ?hS425 ?hrest425
          case hi425 => (simp only [List.getElem?_toArray, List.getElem?_cons_succ, List.getElem?_cons_zero] <;> exact rfl)
          case hs425 => kernel_rfl
          case hf425 => kernel_rfl
          case hr425 => kernel_rfl
          case hQ425 => exact fun _ _ _ h => h
          case hS425 => assumption
          case hy425 => (refine Or.inl ⟨by rfl, ?_⟩; intro w hSw; (try dsimp only at hSw); (first | obtain ⟨z0, z1, z2, z3, z4, z5⟩ := hSw | obtain ⟨z0, z1, z2, z3⟩ := hSw | obtain ⟨z0, z1, z2⟩ := hSw | obtain ⟨z0, z1⟩ := hSw | skip); go_simp; try with_reducible rfl)
          simp only [Act.put, List.setIfInBounds_toArray, List.set_cons_zero, List.set_cons_succ]
          refine wpAnyH_take (i := 8) (oi := ?oi434) (v := ?val434) ?hi434 ?hs434 ?hf434 ?hr434 ?hQ434 ?hy434 ?hS434 ?hrest434
          case hi434 => (simp only [List.getElem?_toArray, List.getElem?_cons_succ, List.getElem?_cons_zero] <;> exact rfl)
          case hs434 => kernel_rfl
          case hf434 => kernel_rfl
          case hr434 => kernel_rfl
          case hQ434 => exact fun _ _ _ h => h
          case hS434 => assumption
          case hy434 => (refine Or.inl ⟨by rfl, ?_⟩; intro w hSw; (try dsimp only at hSw); (first | obtain ⟨z0, z1, z2, z3, z4, z5⟩ := hSw | obtain ⟨z0, z1, z2, z3⟩ := hSw | obtain ⟨z0, z1, z2⟩ := hSw | obtain ⟨z0, z1⟩ := hSw | skip); go_simp; try with_reducible rfl)
          simp only [Act.put, List.setIfInBounds_toArray, List.set_cons_zero, List.set_cons_succ]
          refine wpAnyH_take (i := 9) (oi := ?oi443) (v := ?val443) ?hi443 ?hs443 ?hf443 ?hr443 ?hQ443 ?hy443 ?hS443 ?hrest443
          case hi443 => (simp only [List.getElem?_toArray, List.getElem?_cons_succ, List.getElem?_cons_zero] <;> exact rfl)
          case hs443 => kernel_rfl
          case hf443 => kernel_rfl
          case hr443 => kernel_rfl
          case hQ443 => exact fun _ _ _ h => h
          case hS443 => assumption
          case hy443 => (refine Or.inl ⟨by rfl, ?_⟩; intro w hSw; (try dsimp only at hSw); (first | obtain ⟨z0, z1, z2, z3, z4, z5⟩ := hSw | obtain ⟨z0, z1, z2, z3⟩ := hSw | obtain ⟨z0, z1, z2⟩ := hSw | obtain ⟨z0, z1⟩ := hSw | skip); go_simp; try with_reducible rfl)
          simp only [Act.put, List.setIfInBounds_toArray, List.set_cons_zero, List.set_cons_succ]
          refine wpAnyH_take (i := 10) (oi := ?oi452) (v := ?val452) ?hi452 ?hs452 ?hf452 ?hr452 ?hQ452 ?hy452 ?hS452 ?hrest452
          case hi452 => (simp only [List.getElem?_toArray, List.getElem?_cons_succ, List.getElem?_cons_zero] <;> exact rfl)
          case hs452 => kernel_rfl
          case hf452 => kernel_rfl
          case hr452 => kernel_rfl
          case hQ452 => exact fun _ _ _ h => h
          case hS452 => assumption
          case hy452 => (refine Or.inl ⟨by rfl, ?_⟩; intro w hSw; (try dsimp only at hSw); (first | obtain ⟨z0, z1, z2, z3, z4, z5⟩ := hSw | obtain ⟨z0, z1, z2, z3⟩ := hSw | obtain ⟨z0, z1, z2⟩ := hSw | obtain ⟨z0, z1⟩ := hSw | skip); go_simp; try with_reducible rfl)
          simp only [Act.put, List.setIfInBounds_toArray, List.set_cons_zero, List.set_cons_succ]
          refine wpAnyH_take (i := 11) (oi := ?oi461) (v := ?val461) ?hi461 ?hs461 ?hf461 ?hr461 ?hQ461 ?hy461 ?hS461 ?hrest461
          case hi461 => (simp only [List.getElem?_toArray, List.getElem?_cons_succ, List.getElem?_cons_zero] <;> exact rfl)
          case hs461 => kernel_rfl
          case hf461 => kernel_rfl
          case hr461 => kernel_rfl
          case hQ461 => exact fun _ _ _ h => h
          case hS461 => assumption
          case hy461 => (refine Or.inl ⟨by rfl, ?_⟩; intro w hSw; (try dsimp only at hSw); (first | obtain ⟨z0, z1, z2, z3, z4, z5⟩ := hSw | obtain ⟨z0, z1, z2, z3⟩ := hSw | obtain ⟨z0, z1, z2⟩ := hSw | obtain ⟨z0, z1⟩ := hSw | skip); go_simp; try with_reducible rfl)
          simp only [Act.put, List.setIfInBounds_toArray, List.set_cons_zero, List.set_cons_succ]
          refine wpAnyH_done (by kernel_rfl) ?_ _
          obtain ⟨p1, hS9, hrx9, hW9, hy2⟩ := EV.out _ hV1
          clear hHeld ES ER EV hV0 hV1 b2
          obtain ⟨fo, hfo⟩ : ∃ fo, fo = fnd S y := ⟨_, rfl⟩
          cases fo with
          | some i0 =>
            have e7 : (fnd S y).isSome = true := by rw [← hfo]; rfl
            have hn2 : S = crRow rs cur S0 (X.take (j + 1)) := by rw [Hnx.out, crAdd_some (by rw [← Hy.out]; exact hfo.symm)]
            have hbx2 : ∀ ad, some (⟨b, o, none⟩ : Addr) = some ad → ad.block < y2.heap.size ∧ ad.block ≠ g1 := fun ad had => ⟨by have := (Hbx.out ad had).1; omega, (Hbx.out ad had).2⟩
            have Hfo := Lib.hid hfo
            clear hfo
            have E7 := Lib.hid e7
            clear e7
            have Hn2 := Lib.hid hn2
            clear hn2
            have Hbx2 := Lib.hid hbx2
            clear hbx2
            have HS9 := Lib.hid hS9
            clear hS9
            have Hrx9 := Lib.hid hrx9
            clear hrx9
            have HW9 := Lib.hid hW9
            clear hW9
            go_wp2_with fail
            refine (specHas_any (some ⟨g1, 0, none⟩) p c1 S y _ p1.rd HP.out (by omega)).mono ?_
            rintro e w3 ⟨rfl, rfl⟩
            rw [E7.out]
            go_wp2_with fail
            go_roundw
            case rel => exact ⟨j + 1, S, p, g1, c1, rfl, by go_num, by omega, HP, Hn2, hg1, Hbx2, Hrx9.out, HS9.out, HW9.out, p1⟩
            case measure => simp [intOf] <;> omega
          | none =>
            have e7 : (fnd S y).isSome = false := by rw [← hfo]; rfl
            have hn2 : S ++ [y] = crRow rs cur S0 (X.take (j + 1)) := by rw [Hnx.out, crAdd_none (by rw [← Hy.out]; exact hfo.symm), ← Hy.out]
            have hp2 : p + 1 = (S ++ [y]).length := by rw [List.length_append, ← HP.out]; rfl
            have t1 : strs (S ++ [y]) = strs S ++ [.string y] := by simp [strs]
            have m1 := p1.2
            have hS9l := hS9.lt
            have hw9 := hW9.size
            have Hfo := Lib.hid hfo
            clear hfo
            have E7 := Lib.hid e7
            clear e7
            have Hn2 := Lib.hid hn2
            clear hn2
            have Hp2 := Lib.hid hp2
            clear hp2
            have T1 := Lib.hid t1
            clear t1
            go_wp2_with fail
            refine (specHas_any (some ⟨g1, 0, none⟩) p c1 S y _ p1.rd HP.out (by omega)).mono ?_
            rintro e w3 ⟨rfl, rfl⟩
            rw [E7.out]
            go_wp2_with (at_builtin; refine wpList_app4 _ _ rfl _ _ 69 rfl w.heap.size 9 1 16 _ Try.underlying69 info_str rfl (by omega) g1 _ _ _ _ rfl rfl rfl p1 rfl (one_cell_str _) (by omega) (by unfold maxLen; omega) (by omega) ?_; intro h1 d1 W1 q1 hG1 hat1)
            have u1 : OwnG W1 h1 w.heap.size 9 1 (p + 1) (strs (S ++ [y])) d1 := by rw [T1.out]; exact q1
            have uS := hS9.grownG hG1 (by omega)
            have ux := hrx9.grown hG1 (fun ad had e => by have h5 := Hbx.out ad had; injection e with e; omega)
            have uW := hW9.grown hG1 hW9.size (fun k hk => by injection hk with hk; omega)
            have z1 := hG1.size
            have hbx2 : ∀ ad, some (⟨b, o, none⟩ : Addr) = some ad → ad.block < W1.heap.size ∧ ad.block ≠ h1 := fun ad had => by have h5 := Hbx.out ad had; omega
            have hm2 : w.heap.size < h1 := by omega
            clear q1
            have U1 := Lib.hid u1
            clear u1
            have US := Lib.hid uS
            clear uS
            have Ux := Lib.hid ux
            clear ux
            have UW := Lib.hid uW
            clear uW
            have Hbx2 := Lib.hid hbx2
            clear hbx2
            go_wp2_with fail
            go_roundw
            case rel => exact ⟨j + 1, S ++ [y], p + 1, h1, d1, rfl, by go_num, by omega, Hp2, Hn2, hm2, Hbx2, Ux.out, US.out, UW.out, U1.out⟩
            case measure => simp [intOf] <;> omega
        · have : j = q := by omega
          subst this
          have hT2 : X.take j = X := List.take_of_length_le (by rw [← Hq.out]; exact Nat.le_refl _)
          have hpe := HP.out
          have ha131 : a < 131073 := by omega
          have hnext : crAll rs s = crGo rs (131073 - (a + 1)) (a + 1) S := by
            rw [HE.out, crGo_go (by omega) hal, HS'.out, hT2, HX.out, Hcur.out]
            rfl
          have hap2 : a + 1 ≤ p := by rw [HP.out]; omega
          clear hsub hT
          have HgS := Lib.hid hgS
          clear hgS
          have Hnext := Lib.hid hnext
          clear hnext
          have HatS := Lib.hid hatS
          clear hatS
          go_wp2_with fail
          go_roundw
          case rel => exact ⟨a + 1, S, p, g1, c1, rfl, by go_num, HP, hap2, HgS, Hnext, hg1, hS, hW, p1⟩
          case measure => simp [intOf] <;> omega
    · have : a = p := by omega
      subst this
      have e1 : crAll rs s = S0 := by rw [HE.out, crGo_end (by rw [← HP.out]; exact Nat.le_refl _)]
      have e2 : crN l rs s = (a : Int) := by rw [E0.out, e1, ← HP.out]
      have E1 := Lib.hid e1
      clear e1
      have E2 := Lib.hid e2
      clear e2
      go_wp2_with fail
      go_ret
      exact ⟨ret_int (by rw [E2.out]), hW⟩

end Go.Proofs.Ytnlagiopmkjmlaa
