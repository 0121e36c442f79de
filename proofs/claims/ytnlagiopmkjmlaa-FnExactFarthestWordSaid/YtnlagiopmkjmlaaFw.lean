/- Walks over FarthestWord of the reference and of the program. -/
import Derived.Test.YtnlagiopmkjmlaaFwP
import Derived.Test.YtnlagiopmkjmlaaShortS
namespace Go.Proofs.Ytnlagiopmkjmlaa
open Go.RowKit Go.Shelf

set_option maxRecDepth 100000 in
set_option maxHeartbeats 4000000 in
theorem specFarthestWord_any (l : Int) (A : Option Addr) (n c : Nat) (rs : List RuleT) (u : ByteArray) (lim : Int) (w : World) (hr : Rd w A (cellsRule rs)) (hn : n = rs.length) (hb : n ≤ 1048576) (hz : ∀ x ∈ rs, x.1.size ≤ 1048576 ∧ x.2.size ≤ 1048576) (hs : u.size ≤ 1048576) :
    Calls Try.prog 26 #[.agg #[.int .i64 l, .slice A n c], .string u, .int .i64 lim] w (Kept w (.tuple #[.string (fwS l rs u lim), .int .i64 (fwF l rs u lim)])) := by
  have hW0 : Below w.heap.size w (w.alloc (.cells #[.int .i64 l, .slice A n c] 29)) := (Below.refl _ _).alloc (Nat.le_refl _) _
  have hS0 := Bk.new w 29 #[.int .i64 l, .slice A n c]
  have Hr := Lib.hid hr
  clear hr
  have Hn := Lib.hid hn
  clear hn
  have Hz := Lib.hid hz
  clear hz
  go_enter Try.func26, Try.ntmps26
  go_wp2_with fail
  with_reducible refine (specSearchOk_any l A n c rs lim _ (Hr.out.keep hW0) Hn.out hb Hz.out).mono ?_
  rintro e w1 ⟨rfl, b1⟩
  have hW1 := hW0.trans (b1.mono hW0.size)
  have hS1 := hS0.below b1 hS0.lt
  have s0_1 : w1.cell? ⟨w.heap.size, 0, none⟩ = some (.int .i64 l) := by rw [hS1.cell]; rfl
  have s1_1 : w1.cell? ⟨w.heap.size, 1, none⟩ = some (.slice A n c) := by rw [hS1.cell]; rfl
  have sl_1 := hS1.lt
  clear b1
  obtain ⟨r1, hrr⟩ : ∃ r', r' = (searchOk l rs lim) := ⟨_, rfl⟩
  rw [← hrr]
  have H1 := Lib.hid hrr
  clear hrr
  cases r1
  · have e1 : fwS l rs u lim = ⟨#[]⟩ := by rw [fwS, searched, ← H1.out]; rfl
    have e2 : fwF l rs u lim = -1 := by rw [fwF, searched, ← H1.out]; rfl
    have E1 := Lib.hid e1
    clear e1
    have E2 := Lib.hid e2
    clear e2
    go_wp2_with fail
    go_ret2
    rw [E1.out, E2.out]
    exact ⟨rfl, hW1⟩
  go_wp2_with fail
  with_reducible refine (specWord15_any l A n c u lim _ hs).mono ?_
  rintro e w2 ⟨rfl, b2⟩
  have hW2 := hW1.trans (b2.mono hW1.size)
  have hS2 := hS1.below b2 hS1.lt
  have s0_2 : w2.cell? ⟨w.heap.size, 0, none⟩ = some (.int .i64 l) := by rw [hS2.cell]; rfl
  have s1_2 : w2.cell? ⟨w.heap.size, 1, none⟩ = some (.slice A n c) := by rw [hS2.cell]; rfl
  have sl_2 := hS2.lt
  clear b2
  obtain ⟨r2, hrr⟩ : ∃ r', r' = (word15 l u lim) := ⟨_, rfl⟩
  rw [← hrr]
  have H2 := Lib.hid hrr
  clear hrr
  cases r2
  · have e1 : fwS l rs u lim = ⟨#[]⟩ := by rw [fwS, searched, ← H1.out, ← H2.out]; rfl
    have e2 : fwF l rs u lim = -1 := by rw [fwF, searched, ← H1.out, ← H2.out]; rfl
    have E1 := Lib.hid e1
    clear e1
    have E2 := Lib.hid e2
    clear e2
    go_wp2_with fail
    go_ret2
    rw [E1.out, E2.out]
    exact ⟨rfl, hW2⟩
  have hsu : searched l rs u lim = true := by rw [searched, ← H1.out, ← H2.out]; rfl
  obtain ⟨hro, hg8, hl8⟩ := searched_out H1.out.symm H2.out.symm
  obtain ⟨S, hS⟩ : ∃ S, S = srAll rs u lim := ⟨_, rfl⟩
  have hgd := srAll_good hro hl8 hg8
  have hpos := srAll_pos rs u lim
  have hlen := srGood_len hgd
  have hsr := specSearch_any l A n c rs u lim w2 (Hr.out.keep hW2) Hn.out hb Hz.out hro hg8 hl8
  have e1 : fwS l rs u lim = (srAt (srAll rs u lim) (fwTo (srAll rs u lim) (srAll rs u lim).length)).1 := by rw [fwS, if_pos hsu, fwAt]
  have e2 : fwF l rs u lim = (srAt (srAll rs u lim) (fwTo (srAll rs u lim) (srAll rs u lim).length)).2.2.2 := by rw [fwF, if_pos hsu, fwAt]
  rw [← hS] at hgd hpos hlen hsr e1 e2
  have Hgd := Lib.hid hgd
  clear hgd
  have HS := Lib.hid hS
  clear hS
  have Hro := Lib.hid hro
  clear hro
  have Hg8 := Lib.hid hg8
  clear hg8
  have Hsr := Lib.hid hsr
  clear hsr
  have Hsu := Lib.hid hsu
  clear hsu
  have E1 := Lib.hid e1
  clear e1
  have E2 := Lib.hid e2
  clear e2
  go_wp2_with fail
  refine Hsr.out.mono ?_
  rintro e w4 ⟨g1, c1, g2, c2, g3, c3, g4, c4, rfl, o1, o2, o3, o4, b4⟩
  have hW4 := hW2.trans (b4.mono hW2.size)
  obtain ⟨p, hp⟩ : ∃ p, p = S.length := ⟨_, rfl⟩
  rw [← hp] at o1 o4 hlen hpos ⊢
  clear b4 s0_2 s1_2 sl_2 hS2 hW2 o2 o3
  have hB0 := Below.refl w4.heap.size w4
  have Hp := Lib.hid hp
  clear hp
  have O1 := Lib.hid o1
  clear o1
  have O4 := Lib.hid o4
  clear o4
  have HB0 := Lib.hid hB0
  clear hB0
  go_wp2_with fail
  go_loopw [12, 37] (fun b iv wr => ∃ (q B : Nat), b = .int .i64 (B : Int) ∧ iv = .int .i64 (q : Int) ∧ q ≤ p ∧ Hid (B = fwTo S q) ∧ Below w4.heap.size w4 wr) (fun _ iv _ => p - (intOf iv).toNat)
  case atStart => exact ⟨0, 0, rfl, rfl, Nat.zero_le _, Lib.hid rfl, HB0.out⟩
  case round =>
    clear HB0
    obtain ⟨q, B, rfl, rfl, hq, HB, hB⟩ := hrel
    have hBp : B < p := by rw [HB.out, Hp.out]; exact fwTo_lt (by rw [← Hp.out]; exact hpos) q (by rw [← Hp.out]; exact hq)
    have hBS : B < S.length := by rw [← Hp.out]; exact hBp
    have k1 := (O1.out.below hB).cell (srAt_cell hBS).1
    have k4 := (O4.out.below hB).cell (srAt_cell hBS).2
    have hwB := (Hgd.out.2.1 _ (srAt_word hBS)).2.2
    obtain ⟨⟨x, x1, x2, f⟩, hx⟩ : ∃ x, x = srAt S B := ⟨_, rfl⟩
    have hxB := hx
    rw [← hx] at k1 k4 hwB
    dsimp only at k1 k4 hwB
    have hBi : (B : Int) < (p : Int) := by omega
    by_cases hlt : q < p
    · have hqS : q < S.length := by rw [← Hp.out]; exact hlt
      have hqi : (q : Int) < (p : Int) := by omega
      have m1 := (O1.out.below hB).cell (srAt_cell hqS).1
      have m4 := (O4.out.below hB).cell (srAt_cell hqS).2
      have hwq := (Hgd.out.2.1 _ (srAt_word hqS)).2.2
      obtain ⟨⟨y, y1, y2, f'⟩, hy⟩ : ∃ x, x = srAt S q := ⟨_, rfl⟩
      have hyq := hy
      rw [← hy] at m1 m4 hwq
      dsimp only at m1 m4 hwq
      rcases Int.lt_trichotomy f f' with hf | hf | hf
      · have e3 : fwTo S (q + 1) = q := fwTo_gt HB.out (by rw [← hx, ← hy]; exact hf)
        have Hx := Lib.hid hx
        clear hx
        have Hy := Lib.hid hy
        clear hy
        have HxB := Lib.hid hxB
        clear hxB
        have Hyq := Lib.hid hyq
        clear hyq
        have E3 := Lib.hid e3
        clear e3
        go_wp2_with fail
        refine wp_region_held_drew (S := (fun W => W.cell? ⟨g4, q, none⟩ = some (.int .i64 f') ∧ W.cell? ⟨g4, B, none⟩ = some (.int .i64 f) ∧ W.cell? ⟨g1, B, none⟩ = some (.string x))) (by kernel_rfl) (⟨m4, k4, k1⟩) (fun hHeld => ?_)
        refine wpAnyH_take (i := 0) (oi := ?oi149) (v := ?val149) ?hi149 ?hs149 ?hf149 ?hr149 ?hQ149 ?hy149 ?hS149 ?hrest149
        case hi149 => (simp only [List.getElem?_toArray, List.getElem?_cons_succ, List.getElem?_cons_zero] <;> exact rfl)
        case hs149 => kernel_rfl
        case hf149 => kernel_rfl
        case hr149 => kernel_rfl
        case hQ149 => exact fun _ _ _ h => h
        case hS149 => assumption
        case hy149 => (refine Or.inl ⟨by rfl, ?_⟩; intro w hSw; (try dsimp only at hSw); (first | obtain ⟨z0, z1, z2, z3, z4, z5⟩ := hSw | obtain ⟨z0, z1, z2, z3⟩ := hSw | obtain ⟨z0, z1, z2⟩ := hSw | obtain ⟨z0, z1⟩ := hSw | skip); go_simp; try with_reducible rfl)
        simp only [Act.put, List.setIfInBounds_toArray, List.set_cons_zero, List.set_cons_succ]
        refine wpAnyH_take (i := 1) (oi := ?oi158) (v := ?val158) ?hi158 ?hs158 ?hf158 ?hr158 ?hQ158 ?hy158 ?hS158 ?hrest158
        case hi158 => (simp only [List.getElem?_toArray, List.getElem?_cons_succ, List.getElem?_cons_zero] <;> exact rfl)
        case hs158 => kernel_rfl
        case hf158 => kernel_rfl
        case hr158 => kernel_rfl
        case hQ158 => exact fun _ _ _ h => h
        case hS158 => assumption
        case hy158 => (refine Or.inl ⟨by rfl, ?_⟩; intro w hSw; (try dsimp only at hSw); (first | obtain ⟨z0, z1, z2, z3, z4, z5⟩ := hSw | obtain ⟨z0, z1, z2, z3⟩ := hSw | obtain ⟨z0, z1, z2⟩ := hSw | obtain ⟨z0, z1⟩ := hSw | skip); go_simp; try with_reducible rfl)
        simp only [Act.put, List.setIfInBounds_toArray, List.set_cons_zero, List.set_cons_succ]
        refine wpAnyH_take (i := 2) (oi := ?oi167) (v := ?val167) ?hi167 ?hs167 ?hf167 ?hr167 ?hQ167 ?hy167 ?hS167 ?hrest167
        case hi167 => (simp only [List.getElem?_toArray, List.getElem?_cons_succ, List.getElem?_cons_zero] <;> exact rfl)
        case hs167 => kernel_rfl
        case hf167 => kernel_rfl
        case hr167 => kernel_rfl
        case hQ167 => exact fun _ _ _ h => h
        case hS167 => assumption
        case hy167 => (refine Or.inl ⟨by rfl, ?_⟩; intro w hSw; (try dsimp only at hSw); (first | obtain ⟨z0, z1, z2, z3, z4, z5⟩ := hSw | obtain ⟨z0, z1, z2, z3⟩ := hSw | obtain ⟨z0, z1, z2⟩ := hSw | obtain ⟨z0, z1⟩ := hSw | skip); go_simp; try with_reducible rfl)
        simp only [Act.put, List.setIfInBounds_toArray, List.set_cons_zero, List.set_cons_succ]
        refine wpAnyH_take (i := 3) (oi := ?oi176) (v := ?val176) ?hi176 ?hs176 ?hf176 ?hr176 ?hQ176 ?hy176 ?hS176 ?hrest176
        case hi176 => (simp only [List.getElem?_toArray, List.getElem?_cons_succ, List.getElem?_cons_zero] <;> exact rfl)
        case hs176 => kernel_rfl
        case hf176 => kernel_rfl
        case hr176 => kernel_rfl
        case hQ176 => exact fun _ _ _ h => h
        case hS176 => assumption
        case hy176 => (refine Or.inl ⟨by rfl, ?_⟩; intro w hSw; (try dsimp only at hSw); (first | obtain ⟨z0, z1, z2, z3, z4, z5⟩ := hSw | obtain ⟨z0, z1, z2, z3⟩ := hSw | obtain ⟨z0, z1, z2⟩ := hSw | obtain ⟨z0, z1⟩ := hSw | skip); go_simp; try with_reducible rfl)
        simp only [Act.put, List.setIfInBounds_toArray, List.set_cons_zero, List.set_cons_succ]
        refine wpAnyH_take (i := 4) (oi := ?oi185) (v := ?val185) ?hi185 ?hs185 ?hf185 ?hr185 ?hQ185 ?hy185 ?hS185 ?hrest185
        case hi185 => (simp only [List.getElem?_toArray, List.getElem?_cons_succ, List.getElem?_cons_zero] <;> exact rfl)
        case hs185 => kernel_rfl
        case hf185 => kernel_rfl
        case hr185 => kernel_rfl
        case hQ185 => exact fun _ _ _ h => h
        case hS185 => assumption
        case hy185 => (refine Or.inl ⟨by rfl, ?_⟩; intro w hSw; (try dsimp only at hSw); (first | obtain ⟨z0, z1, z2, z3, z4, z5⟩ := hSw | obtain ⟨z0, z1, z2, z3⟩ := hSw | obtain ⟨z0, z1, z2⟩ := hSw | obtain ⟨z0, z1⟩ := hSw | skip); go_simp; try with_reducible rfl)
        simp only [Act.put, List.setIfInBounds_toArray, List.set_cons_zero, List.set_cons_succ]
        refine wpAnyH_take (i := 5) (oi := ?oi194) (v := ?val194) ?hi194 ?hs194 ?hf194 ?hr194 ?hQ194 ?hy194 ?hS194 ?hrest194
        case hi194 => (simp only [List.getElem?_toArray, List.getElem?_cons_succ, List.getElem?_cons_zero] <;> exact rfl)
        case hs194 => kernel_rfl
        case hf194 => kernel_rfl
        case hr194 => kernel_rfl
        case hQ194 => exact fun _ _ _ h => h
        case hS194 => assumption
        case hy194 => (refine Or.inl ⟨by rfl, ?_⟩; intro w hSw; (try dsimp only at hSw); (first | obtain ⟨z0, z1, z2, z3, z4, z5⟩ := hSw | obtain ⟨z0, z1, z2, z3⟩ := hSw | obtain ⟨z0, z1, z2⟩ := hSw | obtain ⟨z0, z1⟩ := hSw | skip); go_simp; try with_reducible rfl)
        simp only [Act.put, List.setIfInBounds_toArray, List.set_cons_zero, List.set_cons_succ]
        refine wpAnyH_take (i := 6) (oi := ?oi203) (v := ?val203) ?hi203 ?hs203 ?hf203 ?hr203 ?hQ203 ?hy203 ?hS203 ?hrest203
        case hi203 => (simp only [List.getElem?_toArray, List.getElem?_cons_succ, List.getElem?_cons_zero] <;> exact rfl)
        case hs203 => kernel_rfl
        case hf203 => kernel_rfl
        case hr203 => kernel_rfl
        case hQ203 => exact fun _ _ _ h => h
        case hS203 => assumption
        case hy203 => (refine Or.inl ⟨by rfl, ?_⟩; intro w hSw; (try dsimp only at hSw); (first | obtain ⟨z0, z1, z2, z3, z4, z5⟩ := hSw | obtain ⟨z0, z1, z2, z3⟩ := hSw | obtain ⟨z0, z1, z2⟩ := hSw | obtain ⟨z0, z1⟩ := hSw | skip); go_simp; try with_reducible rfl)
        simp only [Act.put, List.setIfInBounds_toArray, List.set_cons_zero, List.set_cons_succ]
        refine wpAnyH_take (i := 7) (oi := ?oi212) (v := ?val212) ?hi212 ?hs212 ?hf212 ?hr212 ?hQ212 ?hy212 ?hS212 ?hrest212
        case hi212 => (simp only [List.getElem?_toArray, List.getElem?_cons_succ, List.getElem?_cons_zero] <;> exact rfl)
        case hs212 => kernel_rfl
        case hf212 => kernel_rfl
        case hr212 => kernel_rfl
        case hQ212 => exact fun _ _ _ h => h
        case hS212 => assumption
        case hy212 => (refine Or.inl ⟨by rfl, ?_⟩; intro w hSw; (try dsimp only at hSw); (first | obtain ⟨z0, z1, z2, z3, z4, z5⟩ := hSw | obtain ⟨z0, z1, z2, z3⟩ := hSw | obtain ⟨z0, z1, z2⟩ := hSw | obtain ⟨z0, z1⟩ := hSw | skip); go_simp; try with_reducible rfl)
        simp only [Act.put, List.setIfInBounds_toArray, List.set_cons_zero, List.set_cons_succ]
        refine wpAnyH_take (i := 8) (oi := ?oi221) (v := ?val221) ?hi221 ?hs221 ?hf221 ?hr221 ?hQ221 ?hy221 ?hS221 ?hrest221
        case hi221 => (simp only [List.getElem?_toArray, List.getElem?_cons_succ, List.getElem?_cons_zero] <;> exact rfl)
        case hs221 => kernel_rfl
        case hf221 => kernel_rfl
        case hr221 => kernel_rfl
        case hQ221 => exact fun _ _ _ h => h
        case hS221 => assumption
        case hy221 => (refine Or.inl ⟨by rfl, ?_⟩; intro w hSw; (try dsimp only at hSw); (first | obtain ⟨z0, z1, z2, z3, z4, z5⟩ := hSw | obtain ⟨z0, z1, z2, z3⟩ := hSw | obtain ⟨z0, z1, z2⟩ := hSw | obtain ⟨z0, z1⟩ := hSw | skip); go_simp; try with_reducible rfl)
        simp only [Act.put, List.setIfInBounds_toArray, List.set_cons_zero, List.set_cons_succ]
        refine wpAnyH_take (i := 9) (oi := ?oi230) (v := ?val230) ?hi230 ?hs230 ?hf230 ?hr230 ?hQ230 ?hy230 ?hS230 ?hrest230
        case hi230 => (simp only [List.getElem?_toArray, List.getElem?_cons_succ, List.getElem?_cons_zero] <;> exact rfl)
        case hs230 => kernel_rfl
        case hf230 => kernel_rfl
        case hr230 => kernel_rfl
        case hQ230 => exact fun _ _ _ h => h
        case hS230 => assumption
        case hy230 => (refine Or.inl ⟨by rfl, ?_⟩; intro w hSw; (try dsimp only at hSw); (first | obtain ⟨z0, z1, z2, z3, z4, z5⟩ := hSw | obtain ⟨z0, z1, z2, z3⟩ := hSw | obtain ⟨z0, z1, z2⟩ := hSw | obtain ⟨z0, z1⟩ := hSw | skip); go_simp; try with_reducible rfl)
        simp only [Act.put, List.setIfInBounds_toArray, List.set_cons_zero, List.set_cons_succ]
        try rw [show decide (f < f') = true from decide_eq_true hf]
        refine wpAnyH_take (i := 10) (oi := ?oi240) (v := undef) ?hi240 ?hs240 ?hf240 ?hr240 ?hQ240 ?hy240 ?hS240 ?hrest240
        case hi240 => (simp only [List.getElem?_toArray, List.getElem?_cons_succ, List.getElem?_cons_zero] <;> exact rfl)
        case hs240 => kernel_rfl
        case hf240 => kernel_rfl
        case hr240 => kernel_rfl
        case hQ240 => exact fun _ _ _ h => h
        case hS240 => assumption
        case hy240 => exact Or.inr ⟨by rfl, rfl⟩
        simp only [Act.put, List.setIfInBounds_toArray, List.set_cons_zero, List.set_cons_succ]
        refine wpAnyH_take (i := 11) (oi := ?oi249) (v := undef) ?hi249 ?hs249 ?hf249 ?hr249 ?hQ249 ?hy249 ?hS249 ?hrest249
        case hi249 => (simp only [List.getElem?_toArray, List.getElem?_cons_succ, List.getElem?_cons_zero] <;> exact rfl)
        case hs249 => kernel_rfl
        case hf249 => kernel_rfl
        case hr249 => kernel_rfl
        case hQ249 => exact fun _ _ _ h => h
        case hS249 => assumption
        case hy249 => exact Or.inr ⟨by rfl, rfl⟩
        simp only [Act.put, List.setIfInBounds_toArray, List.set_cons_zero, List.set_cons_succ]
        refine wpAnyH_take (i := 12) (oi := ?oi258) (v := undef) ?hi258 ?hs258 ?hf258 ?hr258 ?hQ258 ?hy258 ?hS258 ?hrest258
        case hi258 => (simp only [List.getElem?_toArray, List.getElem?_cons_succ, List.getElem?_cons_zero] <;> exact rfl)
        case hs258 => kernel_rfl
        case hf258 => kernel_rfl
        case hr258 => kernel_rfl
        case hQ258 => exact fun _ _ _ h => h
        case hS258 => assumption
        case hy258 => exact Or.inr ⟨by rfl, rfl⟩
        simp only [Act.put, List.setIfInBounds_toArray, List.set_cons_zero, List.set_cons_succ]
        refine wpAnyH_take (i := 13) (oi := ?oi267) (v := undef) ?hi267 ?hs267 ?hf267 ?hr267 ?hQ267 ?hy267 ?hS267 ?hrest267
        case hi267 => (simp only [List.getElem?_toArray, List.getElem?_cons_succ, List.getElem?_cons_zero] <;> exact rfl)
        case hs267 => kernel_rfl
        case hf267 => kernel_rfl
        case hr267 => kernel_rfl
        case hQ267 => exact fun _ _ _ h => h
        case hS267 => assumption
        case hy267 => exact Or.inr ⟨by rfl, rfl⟩
        simp only [Act.put, List.setIfInBounds_toArray, List.set_cons_zero, List.set_cons_succ]
        refine wpAnyH_take (i := 14) (oi := ?oi276) (v := undef) ?hi276 ?hs276 ?hf276 ?hr276 ?hQ276 ?hy276 ?hS276 ?hrest276
        case hi276 => (simp only [List.getElem?_toArray, List.getElem?_cons_succ, List.getElem?_cons_zero] <;> exact rfl)
        case hs276 => kernel_rfl
        case hf276 => kernel_rfl
        case hr276 => kernel_rfl
        case hQ276 => exact fun _ _ _ h => h
        case hS276 => assumption
        case hy276 => exact Or.inr ⟨by rfl, rfl⟩
        simp only [Act.put, List.setIfInBounds_toArray, List.set_cons_zero, List.set_cons_succ]
        refine wpAnyH_take (i := 15) (oi := ?oi285) (v := undef) ?hi285 ?hs285 ?hf285 ?hr285 ?hQ285 ?hy285 ?hS285 ?hrest285
        case hi285 => (simp only [List.getElem?_toArray, List.getElem?_cons_succ, List.getElem?_cons_zero] <;> exact rfl)
        case hs285 => kernel_rfl
        case hf285 => kernel_rfl
        case hr285 => kernel_rfl
        case hQ285 => exact fun _ _ _ h => h
        case hS285 => assumption
        case hy285 => exact Or.inr ⟨by rfl, rfl⟩
        simp only [Act.put, List.setIfInBounds_toArray, List.set_cons_zero, List.set_cons_succ]
        refine wpAnyH_take (i := 16) (oi := ?oi294) (v := undef) ?hi294 ?hs294 ?hf294 ?hr294 ?hQ294 ?hy294 ?hS294 ?hrest294
        case hi294 => (simp only [List.getElem?_toArray, List.getElem?_cons_succ, List.getElem?_cons_zero] <;> exact rfl)
        case hs294 => kernel_rfl
        case hf294 => kernel_rfl
        case hr294 => kernel_rfl
        case hQ294 => exact fun _ _ _ h => h
        case hS294 => assumption
        case hy294 => exact Or.inr ⟨by rfl, rfl⟩
        simp only [Act.put, List.setIfInBounds_toArray, List.set_cons_zero, List.set_cons_succ]
        refine wpAnyH_take (i := 17) (oi := ?oi303) (v := undef) ?hi303 ?hs303 ?hf303 ?hr303 ?hQ303 ?hy303 ?hS303 ?hrest303
        case hi303 => (simp only [List.getElem?_toArray, List.getElem?_cons_succ, List.getElem?_cons_zero] <;> exact rfl)
        case hs303 => kernel_rfl
        case hf303 => kernel_rfl
        case hr303 => kernel_rfl
        case hQ303 => exact fun _ _ _ h => h
        case hS303 => assumption
        case hy303 => exact Or.inr ⟨by rfl, rfl⟩
        simp only [Act.put, List.setIfInBounds_toArray, List.set_cons_zero, List.set_cons_succ]
        refine wpAnyH_take (i := 18) (oi := ?oi312) (v := undef) ?hi312 ?hs312 ?hf312 ?hr312 ?hQ312 ?hy312 ?hS312 ?hrest312
        case hi312 => (simp only [List.getElem?_toArray, List.getElem?_cons_succ, List.getElem?_cons_zero] <;> exact rfl)
        case hs312 => kernel_rfl
        case hf312 => kernel_rfl
        case hr312 => kernel_rfl
        case hQ312 => exact fun _ _ _ h => h
        case hS312 => assumption
        case hy312 => exact Or.inr ⟨by rfl, rfl⟩
        simp only [Act.put, List.setIfInBounds_toArray, List.set_cons_zero, List.set_cons_succ]
        refine wpAnyH_take (i := 19) (oi := ?oi321) (v := undef) ?hi321 ?hs321 ?hf321 ?hr321 ?hQ321 ?hy321 ?hS321 ?hrest321
        case hi321 => (simp only [List.getElem?_toArray, List.getElem?_cons_succ, List.getElem?_cons_zero] <;> exact rfl)
        case hs321 => kernel_rfl
        case hf321 => kernel_rfl
        case hr321 => kernel_rfl
        case hQ321 => exact fun _ _ _ h => h
        case hS321 => assumption
        case hy321 => exact Or.inr ⟨by rfl, rfl⟩
        simp only [Act.put, List.setIfInBounds_toArray, List.set_cons_zero, List.set_cons_succ]
        refine wpAnyH_take (i := 20) (oi := ?oi330) (v := undef) ?hi330 ?hs330 ?hf330 ?hr330 ?hQ330 ?hy330 ?hS330 ?hrest330
        case hi330 => (simp only [List.getElem?_toArray, List.getElem?_cons_succ, List.getElem?_cons_zero] <;> exact rfl)
        case hs330 => kernel_rfl
        case hf330 => kernel_rfl
        case hr330 => kernel_rfl
        case hQ330 => exact fun _ _ _ h => h
        case hS330 => assumption
        case hy330 => exact Or.inr ⟨by rfl, rfl⟩
        simp only [Act.put, List.setIfInBounds_toArray, List.set_cons_zero, List.set_cons_succ]
        refine wpAnyH_take (i := 21) (oi := ?oi339) (v := undef) ?hi339 ?hs339 ?hf339 ?hr339 ?hQ339 ?hy339 ?hS339 ?hrest339
        case hi339 => (simp only [List.getElem?_toArray, List.getElem?_cons_succ, List.getElem?_cons_zero] <;> exact rfl)
        case hs339 => kernel_rfl
        case hf339 => kernel_rfl
        case hr339 => kernel_rfl
        case hQ339 => exact fun _ _ _ h => h
        case hS339 => assumption
        case hy339 => exact Or.inr ⟨by rfl, rfl⟩
        simp only [Act.put, List.setIfInBounds_toArray, List.set_cons_zero, List.set_cons_succ]
        refine wpAnyH_take (i := 22) (oi := ?oi348) (v := undef) ?hi348 ?hs348 ?hf348 ?hr348 ?hQ348 ?hy348 ?hS348 ?hrest348
        case hi348 => (simp only [List.getElem?_toArray, List.getElem?_cons_succ, List.getElem?_cons_zero] <;> exact rfl)
        case hs348 => kernel_rfl
        case hf348 => kernel_rfl
        case hr348 => kernel_rfl
        case hQ348 => exact fun _ _ _ h => h
        case hS348 => assumption
        case hy348 => exact Or.inr ⟨by rfl, rfl⟩
        simp only [Act.put, List.setIfInBounds_toArray, List.set_cons_zero, List.set_cons_succ]
        refine wpAnyH_take (i := 23) (oi := ?oi357) (v := undef) ?hi357 ?hs357 ?hf357 ?hr357 ?hQ357 ?hy357 ?hS357 ?hrest357
        case hi357 => (simp only [List.getElem?_toArray, List.getElem?_cons_succ, List.getElem?_cons_zero] <;> exact rfl)
        case hs357 => kernel_rfl
        case hf357 => kernel_rfl
        case hr357 => kernel_rfl
        case hQ357 => exact fun _ _ _ h => h
        case hS357 => assumption
        case hy357 => exact Or.inr ⟨by rfl, rfl⟩
        simp only [Act.put, List.setIfInBounds_toArray, List.set_cons_zero, List.set_cons_succ]
        refine wpAnyH_take (i := 24) (oi := ?oi366) (v := undef) ?hi366 ?hs366 ?hf366 ?hr366 ?hQ366 ?hy366 ?hS366 ?hrest366
        case hi366 => (simp only [List.getElem?_toArray, List.getElem?_cons_succ, List.getElem?_cons_zero] <;> exact rfl)
        case hs366 => kernel_rfl
        case hf366 => kernel_rfl
        case hr366 => kernel_rfl
        case hQ366 => exact fun _ _ _ h => h
        case hS366 => assumption
        case hy366 => exact Or.inr ⟨by rfl, rfl⟩
        simp only [Act.put, List.setIfInBounds_toArray, List.set_cons_zero, List.set_cons_succ]
        refine wpAnyH_take (i := 25) (oi := ?oi375) (v := undef) ?hi375 ?hs375 ?hf375 ?hr375 ?hQ375 ?hy375 ?hS375 ?hrest375
        case hi375 => (simp only [List.getElem?_toArray, List.getElem?_cons_succ, List.getElem?_cons_zero] <;> exact rfl)
        case hs375 => kernel_rfl
        case hf375 => kernel_rfl
        case hr375 => kernel_rfl
        case hQ375 => exact fun _ _ _ h => h
        case hS375 => assumption
        case hy375 => exact Or.inr ⟨by rfl, rfl⟩
        simp only [Act.put, List.setIfInBounds_toArray, List.set_cons_zero, List.set_cons_succ]
        refine wpAnyH_take (i := 26) (oi := ?oi384) (v := undef) ?hi384 ?hs384 ?hf384 ?hr384 ?hQ384 ?hy384 ?hS384 ?hrest384
        case hi384 => (simp only [List.getElem?_toArray, List.getElem?_cons_succ, List.getElem?_cons_zero] <;> exact rfl)
        case hs384 => kernel_rfl
        case hf384 => kernel_rfl
        case hr384 => kernel_rfl
        case hQ384 => exact fun _ _ _ h => h
        case hS384 => assumption
        case hy384 => exact Or.inr ⟨by rfl, rfl⟩
        simp only [Act.put, List.setIfInBounds_toArray, List.set_cons_zero, List.set_cons_succ]
        refine wpAnyH_take (i := 27) (oi := ?oi393) (v := ?val393) ?hi393 ?hs393 ?hf393 ?hr393 ?hQ393 ?hy393 ?hS393 ?hrest393
        case hi393 => (simp only [List.getElem?_toArray, List.getElem?_cons_succ, List.getElem?_cons_zero] <;> exact rfl)
        case hs393 => kernel_rfl
        case hf393 => kernel_rfl
        case hr393 => kernel_rfl
        case hQ393 => exact fun _ _ _ h => h
        case hS393 => assumption
        case hy393 => (refine Or.inl ⟨by rfl, ?_⟩; intro w hSw; (try dsimp only at hSw); (first | obtain ⟨z0, z1, z2, z3, z4, z5⟩ := hSw | obtain ⟨z0, z1, z2, z3⟩ := hSw | obtain ⟨z0, z1, z2⟩ := hSw | obtain ⟨z0, z1⟩ := hSw | skip); go_simp; try with_reducible rfl)
        simp only [Act.put, List.setIfInBounds_toArray, List.set_cons_zero, List.set_cons_succ]
        refine wpAnyH_done (by kernel_rfl) ?_ _
        clear hHeld
        go_wp2_with fail
        go_roundw
        case rel => exact ⟨q + 1, q, by go_num, by go_num, by omega, Lib.hid E3.out.symm, hB.drew⟩
        case measure => simp [intOf] <;> omega
      · subst hf
        obtain ⟨r, hrl⟩ : ∃ r, r = lessW y x := ⟨_, rfl⟩
        have hL : ∀ W, Calls Try.prog 66 #[.string y, .string x] W fun e w' => e = .returned (.bool r) ∧ W = w' := fun W => by rw [hrl]; exact specLess_any y x W (by omega) (by omega)
        have e3 : fwTo S (q + 1) = if r = true then q else B := by
          cases r
          · rw [if_neg (by simp)]; exact fwTo_not HB.out (by rw [← hx, ← hy]) (by rw [← hx, ← hy]; exact hrl.symm)
          · rw [if_pos rfl]; exact fwTo_less HB.out (by rw [← hx, ← hy]) (by rw [← hx, ← hy]; exact hrl.symm)
        have Hx := Lib.hid hx
        clear hx
        have Hy := Lib.hid hy
        clear hy
        have HxB := Lib.hid hxB
        clear hxB
        have Hyq := Lib.hid hyq
        clear hyq
        have E3 := Lib.hid e3
        clear e3
        have HL := Lib.hid hL
        clear hL
        have Hrl := Lib.hid hrl
        clear hrl
        go_wp2_with fail
        refine wp_region_held_drew (S := (fun W => W.cell? ⟨g4, q, none⟩ = some (.int .i64 f) ∧ W.cell? ⟨g4, B, none⟩ = some (.int .i64 f) ∧ W.cell? ⟨g1, B, none⟩ = some (.string x))) (by kernel_rfl) (⟨m4, k4, k1⟩) (fun hHeld => ?_)
        refine wpAnyH_take (i := 0) (oi := ?oi431) (v := ?val431) ?hi431 ?hs431 ?hf431 ?hr431 ?hQ431 ?hy431 ?hS431 ?hrest431
        case hi431 => (simp only [List.getElem?_toArray, List.getElem?_cons_succ, List.getElem?_cons_zero] <;> exact rfl)
        case hs431 => kernel_rfl
        case hf431 => kernel_rfl
        case hr431 => kernel_rfl
        case hQ431 => exact fun _ _ _ h => h
        case hS431 => assumption
        case hy431 => (refine Or.inl ⟨by rfl, ?_⟩; intro w hSw; (try dsimp only at hSw); (first | obtain ⟨z0, z1, z2, z3, z4, z5⟩ := hSw | obtain ⟨z0, z1, z2, z3⟩ := hSw | obtain ⟨z0, z1, z2⟩ := hSw | obtain ⟨z0, z1⟩ := hSw | skip); go_simp; try with_reducible rfl)
        simp only [Act.put, List.setIfInBounds_toArray, List.set_cons_zero, List.set_cons_succ]
        refine wpAnyH_take (i := 1) (oi := ?oi440) (v := ?val440) ?hi440 ?hs440 ?hf440 ?hr440 ?hQ440 ?hy440 ?hS440 ?hrest440
        case hi440 => (simp only [List.getElem?_toArray, List.getElem?_cons_succ, List.getElem?_cons_zero] <;> exact rfl)
        case hs440 => kernel_rfl
        case hf440 => kernel_rfl
        case hr440 => kernel_rfl
        case hQ440 => exact fun _ _ _ h => h
        case hS440 => assumption
        case hy440 => (refine Or.inl ⟨by rfl, ?_⟩; intro w hSw; (try dsimp only at hSw); (first | obtain ⟨z0, z1, z2, z3, z4, z5⟩ := hSw | obtain ⟨z0, z1, z2, z3⟩ := hSw | obtain ⟨z0, z1, z2⟩ := hSw | obtain ⟨z0, z1⟩ := hSw | skip); go_simp; try with_reducible rfl)
        simp only [Act.put, List.setIfInBounds_toArray, List.set_cons_zero, List.set_cons_succ]
        refine wpAnyH_take (i := 2) (oi := ?oi449) (v := ?val449) ?hi449 ?hs449 ?hf449 ?hr449 ?hQ449 ?hy449 ?hS449 ?hrest449
        case hi449 => (simp only [List.getElem?_toArray, List.getElem?_cons_succ, List.getElem?_cons_zero] <;> exact rfl)
        case hs449 => kernel_rfl
        case hf449 => kernel_rfl
        case hr449 => kernel_rfl
        case hQ449 => exact fun _ _ _ h => h
        case hS449 => assumption
        case hy449 => (refine Or.inl ⟨by rfl, ?_⟩; intro w hSw; (try dsimp only at hSw); (first | obtain ⟨z0, z1, z2, z3, z4, z5⟩ := hSw | obtain ⟨z0, z1, z2, z3⟩ := hSw | obtain ⟨z0, z1, z2⟩ := hSw | obtain ⟨z0, z1⟩ := hSw | skip); go_simp; try with_reducible rfl)
        simp only [Act.put, List.setIfInBounds_toArray, List.set_cons_zero, List.set_cons_succ]
        refine wpAnyH_take (i := 3) (oi := ?oi458) (v := ?val458) ?hi458 ?hs458 ?hf458 ?hr458 ?hQ458 ?hy458 ?hS458 ?hrest458
        case hi458 => (simp only [List.getElem?_toArray, List.getElem?_cons_succ, List.getElem?_cons_zero] <;> exact rfl)
        case hs458 => kernel_rfl
        case hf458 => kernel_rfl
        case hr458 => kernel_rfl
        case hQ458 => exact fun _ _ _ h => h
        case hS458 => assumption
        case hy458 => (refine Or.inl ⟨by rfl, ?_⟩; intro w hSw; (try dsimp only at hSw); (first | obtain ⟨z0, z1, z2, z3, z4, z5⟩ := hSw | obtain ⟨z0, z1, z2, z3⟩ := hSw | obtain ⟨z0, z1, z2⟩ := hSw | obtain ⟨z0, z1⟩ := hSw | skip); go_simp; try with_reducible rfl)
        simp only [Act.put, List.setIfInBounds_toArray, List.set_cons_zero, List.set_cons_succ]
        refine wpAnyH_take (i := 4) (oi := ?oi467) (v := ?val467) ?hi467 ?hs467 ?hf467 ?hr467 ?hQ467 ?hy467 ?hS467 ?hrest467
        case hi467 => (simp only [List.getElem?_toArray, List.getElem?_cons_succ, List.getElem?_cons_zero] <;> exact rfl)
        case hs467 => kernel_rfl
        case hf467 => kernel_rfl
        case hr467 => kernel_rfl
        case hQ467 => exact fun _ _ _ h => h
        case hS467 => assumption
        case hy467 => (refine Or.inl ⟨by rfl, ?_⟩; intro w hSw; (try dsimp only at hSw); (first | obtain ⟨z0, z1, z2, z3, z4, z5⟩ := hSw | obtain ⟨z0, z1, z2, z3⟩ := hSw | obtain ⟨z0, z1, z2⟩ := hSw | obtain ⟨z0, z1⟩ := hSw | skip); go_simp; try with_reducible rfl)
        simp only [Act.put, List.setIfInBounds_toArray, List.set_cons_zero, List.set_cons_succ]
        refine wpAnyH_take (i := 5) (oi := ?oi476) (v := ?val476) ?hi476 ?hs476 ?hf476 ?hr476 ?hQ476 ?hy476 ?hS476 ?hrest476
        case hi476 => (simp only [List.getElem?_toArray, List.getElem?_cons_succ, List.getElem?_cons_zero] <;> exact rfl)
        case hs476 => kernel_rfl
        case hf476 => kernel_rfl
        case hr476 => kernel_rfl
        case hQ476 => exact fun _ _ _ h => h
        case hS476 => assumption
        case hy476 => (refine Or.inl ⟨by rfl, ?_⟩; intro w hSw; (try dsimp only at hSw); (first | obtain ⟨z0, z1, z2, z3, z4, z5⟩ := hSw | obtain ⟨z0, z1, z2, z3⟩ := hSw | obtain ⟨z0, z1, z2⟩ := hSw | obtain ⟨z0, z1⟩ := hSw | skip); go_simp; try with_reducible rfl)
        simp only [Act.put, List.setIfInBounds_toArray, List.set_cons_zero, List.set_cons_succ]
        refine wpAnyH_take (i := 6) (oi := ?oi485) (v := ?val485) ?hi485 ?hs485 ?hf485 ?hr485 ?hQ485 ?hy485 ?hS485 ?hrest485
        case hi485 => (simp only [List.getElem?_toArray, List.getElem?_cons_succ, List.getElem?_cons_zero] <;> exact rfl)
        case hs485 => kernel_rfl
        case hf485 => kernel_rfl
        case hr485 => kernel_rfl
        case hQ485 => exact fun _ _ _ h => h
        case hS485 => assumption
        case hy485 => (refine Or.inl ⟨by rfl, ?_⟩; intro w hSw; (try dsimp only at hSw); (first | obtain ⟨z0, z1, z2, z3, z4, z5⟩ := hSw | obtain ⟨z0, z1, z2, z3⟩ := hSw | obtain ⟨z0, z1, z2⟩ := hSw | obtain ⟨z0, z1⟩ := hSw | skip); go_simp; try with_reducible rfl)
        simp only [Act.put, List.setIfInBounds_toArray, List.set_cons_zero, List.set_cons_succ]
        refine wpAnyH_take (i := 7) (oi := ?oi494) (v := ?val494) ?hi494 ?hs494 ?hf494 ?hr494 ?hQ494 ?hy494 ?hS494 ?hrest494
        case hi494 => (simp only [List.getElem?_toArray, List.getElem?_cons_succ, List.getElem?_cons_zero] <;> exact rfl)
        case hs494 => kernel_rfl
        case hf494 => kernel_rfl
        case hr494 => kernel_rfl
        case hQ494 => exact fun _ _ _ h => h
        case hS494 => assumption
        case hy494 => (refine Or.inl ⟨by rfl, ?_⟩; intro w hSw; (try dsimp only at hSw); (first | obtain ⟨z0, z1, z2, z3, z4, z5⟩ := hSw | obtain ⟨z0, z1, z2, z3⟩ := hSw | obtain ⟨z0, z1, z2⟩ := hSw | obtain ⟨z0, z1⟩ := hSw | skip); go_simp; try with_reducible rfl)
        simp only [Act.put, List.setIfInBounds_toArray, List.set_cons_zero, List.set_cons_succ]
        refine wpAnyH_take (i := 8) (oi := ?oi503) (v := ?val503) ?hi503 ?hs503 ?hf503 ?hr503 ?hQ503 ?hy503 ?hS503 ?hrest503
        case hi503 => (simp only [List.getElem?_toArray, List.getElem?_cons_succ, List.getElem?_cons_zero] <;> exact rfl)
        case hs503 => kernel_rfl
        case hf503 => kernel_rfl
        case hr503 => kernel_rfl
        case hQ503 => exact fun _ _ _ h => h
        case hS503 => assumption
        case hy503 => (refine Or.inl ⟨by rfl, ?_⟩; intro w hSw; (try dsimp only at hSw); (first | obtain ⟨z0, z1, z2, z3, z4, z5⟩ := hSw | obtain ⟨z0, z1, z2, z3⟩ := hSw | obtain ⟨z0, z1, z2⟩ := hSw | obtain ⟨z0, z1⟩ := hSw | skip); go_simp; try with_reducible rfl)
        simp only [Act.put, List.setIfInBounds_toArray, List.set_cons_zero, List.set_cons_succ]
        refine wpAnyH_take (i := 9) (oi := ?oi512) (v := ?val512) ?hi512 ?hs512 ?hf512 ?hr512 ?hQ512 ?hy512 ?hS512 ?hrest512
        case hi512 => (simp only [List.getElem?_toArray, List.getElem?_cons_succ, List.getElem?_cons_zero] <;> exact rfl)
        case hs512 => kernel_rfl
        case hf512 => kernel_rfl
        case hr512 => kernel_rfl
        case hQ512 => exact fun _ _ _ h => h
        case hS512 => assumption
        case hy512 => (refine Or.inl ⟨by rfl, ?_⟩; intro w hSw; (try dsimp only at hSw); (first | obtain ⟨z0, z1, z2, z3, z4, z5⟩ := hSw | obtain ⟨z0, z1, z2, z3⟩ := hSw | obtain ⟨z0, z1, z2⟩ := hSw | obtain ⟨z0, z1⟩ := hSw | skip); go_simp; try with_reducible rfl)
        simp only [Act.put, List.setIfInBounds_toArray, List.set_cons_zero, List.set_cons_succ]
        try rw [show decide (f < f) = false from decide_eq_false (by omega)]
        refine wpAnyH_take (i := 10) (oi := ?oi522) (v := ?val522) ?hi522 ?hs522 ?hf522 ?hr522 ?hQ522 ?hy522 ?hS522 ?hrest522
        case hi522 => (simp only [List.getElem?_toArray, List.getElem?_cons_succ, List.getElem?_cons_zero] <;> exact rfl)
        case hs522 => kernel_rfl
        case hf522 => kernel_rfl
        case hr522 => kernel_rfl
        case hQ522 => exact fun _ _ _ h => h
        case hS522 => assumption
        case hy522 => (refine Or.inl ⟨by rfl, ?_⟩; intro w hSw; (try dsimp only at hSw); (first | obtain ⟨z0, z1, z2, z3, z4, z5⟩ := hSw | obtain ⟨z0, z1, z2, z3⟩ := hSw | obtain ⟨z0, z1, z2⟩ := hSw | obtain ⟨z0, z1⟩ := hSw | skip); go_simp; try with_reducible rfl)
        simp only [Act.put, List.setIfInBounds_toArray, List.set_cons_zero, List.set_cons_succ]
        refine wpAnyH_take (i := 11) (oi := ?oi531) (v := ?val531) ?hi531 ?hs531 ?hf531 ?hr531 ?hQ531 ?hy531 ?hS531 ?hrest531
        case hi531 => (simp only [List.getElem?_toArray, List.getElem?_cons_succ, List.getElem?_cons_zero] <;> exact rfl)
        case hs531 => kernel_rfl
        case hf531 => kernel_rfl
        case hr531 => kernel_rfl
        case hQ531 => exact fun _ _ _ h => h
        case hS531 => assumption
        case hy531 => (refine Or.inl ⟨by rfl, ?_⟩; intro w hSw; (try dsimp only at hSw); (first | obtain ⟨z0, z1, z2, z3, z4, z5⟩ := hSw | obtain ⟨z0, z1, z2, z3⟩ := hSw | obtain ⟨z0, z1, z2⟩ := hSw | obtain ⟨z0, z1⟩ := hSw | skip); go_simp; try with_reducible rfl)
        simp only [Act.put, List.setIfInBounds_toArray, List.set_cons_zero, List.set_cons_succ]
        refine wpAnyH_take (i := 12) (oi := ?oi540) (v := ?val540) ?hi540 ?hs540 ?hf540 ?hr540 ?hQ540 ?hy540 ?hS540 ?hrest540
        case hi540 => (simp only [List.getElem?_toArray, List.getElem?_cons_succ, List.getElem?_cons_zero] <;> exact rfl)
        case hs540 => kernel_rfl
        case hf540 => kernel_rfl
        case hr540 => kernel_rfl
        case hQ540 => exact fun _ _ _ h => h
        case hS540 => assumption
        case hy540 => (refine Or.inl ⟨by rfl, ?_⟩; intro w hSw; (try dsimp only at hSw); (first | obtain ⟨z0, z1, z2, z3, z4, z5⟩ := hSw | obtain ⟨z0, z1, z2, z3⟩ := hSw | obtain ⟨z0, z1, z2⟩ := hSw | obtain ⟨z0, z1⟩ := hSw | skip); go_simp; try with_reducible rfl)
        simp only [Act.put, List.setIfInBounds_toArray, List.set_cons_zero, List.set_cons_succ]
        refine wpAnyH_take (i := 13) (oi := ?oi549) (v := ?val549) ?hi549 ?hs549 ?hf549 ?hr549 ?hQ549 ?hy549 ?hS549 ?hrest549
        case hi549 => (simp only [List.getElem?_toArray, List.getElem?_cons_succ, List.getElem?_cons_zero] <;> exact rfl)
        case hs549 => kernel_rfl
        case hf549 => kernel_rfl
        case hr549 => kernel_rfl
        case hQ549 => exact fun _ _ _ h => h
        case hS549 => assumption
        case hy549 => (refine Or.inl ⟨by rfl, ?_⟩; intro w hSw; (try dsimp only at hSw); (first | obtain ⟨z0, z1, z2, z3, z4, z5⟩ := hSw | obtain ⟨z0, z1, z2, z3⟩ := hSw | obtain ⟨z0, z1, z2⟩ := hSw | obtain ⟨z0, z1⟩ := hSw | skip); go_simp; try with_reducible rfl)
        simp only [Act.put, List.setIfInBounds_toArray, List.set_cons_zero, List.set_cons_succ]
        refine wpAnyH_take (i := 14) (oi := ?oi558) (v := ?val558) ?hi558 ?hs558 ?hf558 ?hr558 ?hQ558 ?hy558 ?hS558 ?hrest558
        case hi558 => (simp only [List.getElem?_toArray, List.getElem?_cons_succ, List.getElem?_cons_zero] <;> exact rfl)
        case hs558 => kernel_rfl
        case hf558 => kernel_rfl
        case hr558 => kernel_rfl
        case hQ558 => exact fun _ _ _ h => h
        case hS558 => assumption
        case hy558 => (refine Or.inl ⟨by rfl, ?_⟩; intro w hSw; (try dsimp only at hSw); (first | obtain ⟨z0, z1, z2, z3, z4, z5⟩ := hSw | obtain ⟨z0, z1, z2, z3⟩ := hSw | obtain ⟨z0, z1, z2⟩ := hSw | obtain ⟨z0, z1⟩ := hSw | skip); go_simp; try with_reducible rfl)
        simp only [Act.put, List.setIfInBounds_toArray, List.set_cons_zero, List.set_cons_succ]
        refine wpAnyH_take (i := 15) (oi := ?oi567) (v := ?val567) ?hi567 ?hs567 ?hf567 ?hr567 ?hQ567 ?hy567 ?hS567 ?hrest567
        case hi567 => (simp only [List.getElem?_toArray, List.getElem?_cons_succ, List.getElem?_cons_zero] <;> exact rfl)
        case hs567 => kernel_rfl
        case hf567 => kernel_rfl
        case hr567 => kernel_rfl
        case hQ567 => exact fun _ _ _ h => h
        case hS567 => assumption
        case hy567 => (refine Or.inl ⟨by rfl, ?_⟩; intro w hSw; (try dsimp only at hSw); (first | obtain ⟨z0, z1, z2, z3, z4, z5⟩ := hSw | obtain ⟨z0, z1, z2, z3⟩ := hSw | obtain ⟨z0, z1, z2⟩ := hSw | obtain ⟨z0, z1⟩ := hSw | skip); go_simp; try with_reducible rfl)
        simp only [Act.put, List.setIfInBounds_toArray, List.set_cons_zero, List.set_cons_succ]
        refine wpAnyH_take (i := 16) (oi := ?oi576) (v := ?val576) ?hi576 ?hs576 ?hf576 ?hr576 ?hQ576 ?hy576 ?hS576 ?hrest576
        case hi576 => (simp only [List.getElem?_toArray, List.getElem?_cons_succ, List.getElem?_cons_zero] <;> exact rfl)
        case hs576 => kernel_rfl
        case hf576 => kernel_rfl
        case hr576 => kernel_rfl
        case hQ576 => exact fun _ _ _ h => h
        case hS576 => assumption
        case hy576 => (refine Or.inl ⟨by rfl, ?_⟩; intro w hSw; (try dsimp only at hSw); (first | obtain ⟨z0, z1, z2, z3, z4, z5⟩ := hSw | obtain ⟨z0, z1, z2, z3⟩ := hSw | obtain ⟨z0, z1, z2⟩ := hSw | obtain ⟨z0, z1⟩ := hSw | skip); go_simp; try with_reducible rfl)
        simp only [Act.put, List.setIfInBounds_toArray, List.set_cons_zero, List.set_cons_succ]
        refine wpAnyH_take (i := 17) (oi := ?oi585) (v := ?val585) ?hi585 ?hs585 ?hf585 ?hr585 ?hQ585 ?hy585 ?hS585 ?hrest585
        case hi585 => (simp only [List.getElem?_toArray, List.getElem?_cons_succ, List.getElem?_cons_zero] <;> exact rfl)
        case hs585 => kernel_rfl
        case hf585 => kernel_rfl
        case hr585 => kernel_rfl
        case hQ585 => exact fun _ _ _ h => h
        case hS585 => assumption
        case hy585 => (refine Or.inl ⟨by rfl, ?_⟩; intro w hSw; (try dsimp only at hSw); (first | obtain ⟨z0, z1, z2, z3, z4, z5⟩ := hSw | obtain ⟨z0, z1, z2, z3⟩ := hSw | obtain ⟨z0, z1, z2⟩ := hSw | obtain ⟨z0, z1⟩ := hSw | skip); go_simp; try with_reducible rfl)
        simp only [Act.put, List.setIfInBounds_toArray, List.set_cons_zero, List.set_cons_succ]
        refine wpAnyH_take (i := 18) (oi := ?oi594) (v := ?val594) ?hi594 ?hs594 ?hf594 ?hr594 ?hQ594 ?hy594 ?hS594 ?hrest594
        case hi594 => (simp only [List.getElem?_toArray, List.getElem?_cons_succ, List.getElem?_cons_zero] <;> exact rfl)
        case hs594 => kernel_rfl
        case hf594 => kernel_rfl
        case hr594 => kernel_rfl
        case hQ594 => exact fun _ _ _ h => h
        case hS594 => assumption
        case hy594 => (refine Or.inl ⟨by rfl, ?_⟩; intro w hSw; (try dsimp only at hSw); (first | obtain ⟨z0, z1, z2, z3, z4, z5⟩ := hSw | obtain ⟨z0, z1, z2, z3⟩ := hSw | obtain ⟨z0, z1, z2⟩ := hSw | obtain ⟨z0, z1⟩ := hSw | skip); go_simp; try with_reducible rfl)
        simp only [Act.put, List.setIfInBounds_toArray, List.set_cons_zero, List.set_cons_succ]
        refine wpAnyH_take (i := 19) (oi := ?oi603) (v := ?val603) ?hi603 ?hs603 ?hf603 ?hr603 ?hQ603 ?hy603 ?hS603 ?hrest603
        case hi603 => (simp only [List.getElem?_toArray, List.getElem?_cons_succ, List.getElem?_cons_zero] <;> exact rfl)
        case hs603 => kernel_rfl
        case hf603 => kernel_rfl
        case hr603 => kernel_rfl
        case hQ603 => exact fun _ _ _ h => h
        case hS603 => assumption
        case hy603 => (refine Or.inl ⟨by rfl, ?_⟩; intro w hSw; (try dsimp only at hSw); (first | obtain ⟨z0, z1, z2, z3, z4, z5⟩ := hSw | obtain ⟨z0, z1, z2, z3⟩ := hSw | obtain ⟨z0, z1, z2⟩ := hSw | obtain ⟨z0, z1⟩ := hSw | skip); go_simp; try with_reducible rfl)
        simp only [Act.put, List.setIfInBounds_toArray, List.set_cons_zero, List.set_cons_succ]
        try rw [show (f == f) = true by simp]
        refine wpAnyH_take (i := 20) (oi := ?oi613) (v := ?val613) ?hi613 ?hs613 ?hf613 ?hr613 ?hQ613 ?hy613 ?hS613 ?hrest613
        case hi613 => (simp only [List.getElem?_toArray, List.getElem?_cons_succ, List.getElem?_cons_zero] <;> exact rfl)
        case hs613 => kernel_rfl
        case hf613 => kernel_rfl
        case hr613 => kernel_rfl
        case hQ613 => exact fun _ _ _ h => h
        case hS613 => assumption
        case hy613 => (refine Or.inl ⟨by rfl, ?_⟩; intro w hSw; (try dsimp only at hSw); (first | obtain ⟨z0, z1, z2, z3, z4, z5⟩ := hSw | obtain ⟨z0, z1, z2, z3⟩ := hSw | obtain ⟨z0, z1, z2⟩ := hSw | obtain ⟨z0, z1⟩ := hSw | skip); go_simp; try with_reducible rfl)
        simp only [Act.put, List.setIfInBounds_toArray, List.set_cons_zero, List.set_cons_succ]
        refine wpAnyH_take (i := 21) (oi := ?oi622) (v := ?val622) ?hi622 ?hs622 ?hf622 ?hr622 ?hQ622 ?hy622 ?hS622 ?hrest622
        case hi622 => (simp only [List.getElem?_toArray, List.getElem?_cons_succ, List.getElem?_cons_zero] <;> exact rfl)
        case hs622 => kernel_rfl
        case hf622 => kernel_rfl
        case hr622 => kernel_rfl
        case hQ622 => exact fun _ _ _ h => h
        case hS622 => assumption
        case hy622 => (refine Or.inl ⟨by rfl, ?_⟩; intro w hSw; (try dsimp only at hSw); (first | obtain ⟨z0, z1, z2, z3, z4, z5⟩ := hSw | obtain ⟨z0, z1, z2, z3⟩ := hSw | obtain ⟨z0, z1, z2⟩ := hSw | obtain ⟨z0, z1⟩ := hSw | skip); go_simp; try with_reducible rfl)
        simp only [Act.put, List.setIfInBounds_toArray, List.set_cons_zero, List.set_cons_succ]
        refine wpAnyH_take (i := 22) (oi := ?oi631) (v := ?val631) ?hi631 ?hs631 ?hf631 ?hr631 ?hQ631 ?hy631 ?hS631 ?hrest631
        case hi631 => (simp only [List.getElem?_toArray, List.getElem?_cons_succ, List.getElem?_cons_zero] <;> exact rfl)
        case hs631 => kernel_rfl
        case hf631 => kernel_rfl
        case hr631 => kernel_rfl
        case hQ631 => exact fun _ _ _ h => h
        case hS631 => assumption
        case hy631 => (refine Or.inl ⟨by rfl, ?_⟩; intro w hSw; (try dsimp only at hSw); (first | obtain ⟨z0, z1, z2, z3, z4, z5⟩ := hSw | obtain ⟨z0, z1, z2, z3⟩ := hSw | obtain ⟨z0, z1, z2⟩ := hSw | obtain ⟨z0, z1⟩ := hSw | skip); go_simp; try with_reducible rfl)
        simp only [Act.put, List.setIfInBounds_toArray, List.set_cons_zero, List.set_cons_succ]
        refine wpAnyH_take (i := 23) (oi := ?oi640) (v := ?val640) ?hi640 ?hs640 ?hf640 ?hr640 ?hQ640 ?hy640 ?hS640 ?hrest640
        case hi640 => (simp only [List.getElem?_toArray, List.getElem?_cons_succ, List.getElem?_cons_zero] <;> exact rfl)
        case hs640 => kernel_rfl
        case hf640 => kernel_rfl
        case hr640 => kernel_rfl
        case hQ640 => exact fun _ _ _ h => h
        case hS640 => assumption
        case hy640 => (refine Or.inl ⟨by rfl, ?_⟩; intro w hSw; (try dsimp only at hSw); (first | obtain ⟨z0, z1, z2, z3, z4, z5⟩ := hSw | obtain ⟨z0, z1, z2, z3⟩ := hSw | obtain ⟨z0, z1, z2⟩ := hSw | obtain ⟨z0, z1⟩ := hSw | skip); go_simp; try with_reducible rfl)
        simp only [Act.put, List.setIfInBounds_toArray, List.set_cons_zero, List.set_cons_succ]
        refine wpAnyH_take (i := 24) (oi := ?oi649) (v := ?val649) ?hi649 ?hs649 ?hf649 ?hr649 ?hQ649 ?hy649 ?hS649 ?hrest649
        case hi649 => (simp only [List.getElem?_toArray, List.getElem?_cons_succ, List.getElem?_cons_zero] <;> exact rfl)
        case hs649 => kernel_rfl
        case hf649 => kernel_rfl
        case hr649 => kernel_rfl
        case hQ649 => exact fun _ _ _ h => h
        case hS649 => assumption
        case hy649 => (refine Or.inl ⟨by rfl, ?_⟩; intro w hSw; (try dsimp only at hSw); (first | obtain ⟨z0, z1, z2, z3, z4, z5⟩ := hSw | obtain ⟨z0, z1, z2, z3⟩ := hSw | obtain ⟨z0, z1, z2⟩ := hSw | obtain ⟨z0, z1⟩ := hSw | skip); go_simp; try with_reducible rfl)
        simp only [Act.put, List.setIfInBounds_toArray, List.set_cons_zero, List.set_cons_succ]
        refine wpAnyH_ready (rs := [25]) (by kernel_rfl) (by simp) ?_
        refine AllReadyH.cons rfl (fun K hK => ?_) AllReadyH.nil
        (go_simp; ((with_reducible refine (HL.out _).mono ?_); rintro e y2 ⟨rfl, rfl⟩))
        refine hK.out _ _ (⟨m4, k4, k1⟩) (fun hHeld2 => ?_)
        clear hK K hHeld
        have hHeld := hHeld2
        clear hHeld2
        first | simp only [Act.put, List.setIfInBounds_toArray, List.set_cons_zero, List.set_cons_succ] | skip
        refine wpAnyH_take (i := 26) (oi := ?oi666) (v := ?val666) ?hi666 ?hs666 ?hf666 ?hr666 ?hQ666 ?hy666 ?hS666 ?hrest666
        case hi666 => (simp only [List.getElem?_toArray, List.getElem?_cons_succ, List.getElem?_cons_zero] <;> exact rfl)
        case hs666 => kernel_rfl
        case hf666 => kernel_rfl
        case hr666 => kernel_rfl
        case hQ666 => exact fun _ _ _ h => h
        case hS666 => assumption
        case hy666 => (refine Or.inl ⟨by rfl, ?_⟩; intro w hSw; (try dsimp only at hSw); (first | obtain ⟨z0, z1, z2, z3, z4, z5⟩ := hSw | obtain ⟨z0, z1, z2, z3⟩ := hSw | obtain ⟨z0, z1, z2⟩ := hSw | obtain ⟨z0, z1⟩ := hSw | skip); go_simp; try with_reducible rfl)
        simp only [Act.put, List.setIfInBounds_toArray, List.set_cons_zero, List.set_cons_succ]
        refine wpAnyH_take (i := 27) (oi := ?oi675) (v := ?val675) ?hi675 ?hs675 ?hf675 ?hr675 ?hQ675 ?hy675 ?hS675 ?hrest675
        case hi675 => (simp only [List.getElem?_toArray, List.getElem?_cons_succ, List.getElem?_cons_zero] <;> exact rfl)
        case hs675 => kernel_rfl
        case hf675 => kernel_rfl
        case hr675 => kernel_rfl
        case hQ675 => exact fun _ _ _ h => h
        case hS675 => assumption
        case hy675 => (refine Or.inl ⟨by rfl, ?_⟩; intro w hSw; (try dsimp only at hSw); (first | obtain ⟨z0, z1, z2, z3, z4, z5⟩ := hSw | obtain ⟨z0, z1, z2, z3⟩ := hSw | obtain ⟨z0, z1, z2⟩ := hSw | obtain ⟨z0, z1⟩ := hSw | skip); go_simp; try with_reducible rfl)
        simp only [Act.put, List.setIfInBounds_toArray, List.set_cons_zero, List.set_cons_succ]
        refine wpAnyH_done (by kernel_rfl) ?_ _
        clear hHeld
        cases r
        · go_wp2_with fail
          go_roundw
          case rel => exact ⟨q + 1, B, rfl, by go_num, by omega, Lib.hid (by rw [E3.out]; rfl), hB.drew⟩
          case measure => simp [intOf] <;> omega
        · go_wp2_with fail
          go_roundw
          case rel => exact ⟨q + 1, q, by go_num, by go_num, by omega, Lib.hid (by rw [E3.out]; rfl), hB.drew⟩
          case measure => simp [intOf] <;> omega
      · have e3 : fwTo S (q + 1) = B := fwTo_lt2 HB.out (by rw [← hx, ← hy]; exact hf)
        have hf1 : ¬ f < f' := by omega
        have hf2 : ¬ f' = f := by omega
        have Hx := Lib.hid hx
        clear hx
        have Hy := Lib.hid hy
        clear hy
        have HxB := Lib.hid hxB
        clear hxB
        have Hyq := Lib.hid hyq
        clear hyq
        have E3 := Lib.hid e3
        clear e3
        go_wp2_with fail
        refine wp_region_held_drew (S := (fun W => W.cell? ⟨g4, q, none⟩ = some (.int .i64 f') ∧ W.cell? ⟨g4, B, none⟩ = some (.int .i64 f) ∧ W.cell? ⟨g1, B, none⟩ = some (.string x))) (by kernel_rfl) (⟨m4, k4, k1⟩) (fun hHeld => ?_)
        refine wpAnyH_take (i := 0) (oi := ?oi710) (v := ?val710) ?hi710 ?hs710 ?hf710 ?hr710 ?hQ710 ?hy710 ?hS710 ?hrest710
        case hi710 => (simp only [List.getElem?_toArray, List.getElem?_cons_succ, List.getElem?_cons_zero] <;> exact rfl)
        case hs710 => kernel_rfl
        case hf710 => kernel_rfl
        case hr710 => kernel_rfl
        case hQ710 => exact fun _ _ _ h => h
        case hS710 => assumption
        case hy710 => (refine Or.inl ⟨by rfl, ?_⟩; intro w hSw; (try dsimp only at hSw); (first | obtain ⟨z0, z1, z2, z3, z4, z5⟩ := hSw | obtain ⟨z0, z1, z2, z3⟩ := hSw | obtain ⟨z0, z1, z2⟩ := hSw | obtain ⟨z0, z1⟩ := hSw | skip); go_simp; try with_reducible rfl)
        simp only [Act.put, List.setIfInBounds_toArray, List.set_cons_zero, List.set_cons_succ]
        refine wpAnyH_take (i := 1) (oi := ?oi719) (v := ?val719) ?hi719 ?hs719 ?hf719 ?hr719 ?hQ719 ?hy719 ?hS719 ?hrest719
        case hi719 => (simp only [List.getElem?_toArray, List.getElem?_cons_succ, List.getElem?_cons_zero] <;> exact rfl)
        case hs719 => kernel_rfl
        case hf719 => kernel_rfl
        case hr719 => kernel_rfl
        case hQ719 => exact fun _ _ _ h => h
        case hS719 => assumption
        case hy719 => (refine Or.inl ⟨by rfl, ?_⟩; intro w hSw; (try dsimp only at hSw); (first | obtain ⟨z0, z1, z2, z3, z4, z5⟩ := hSw | obtain ⟨z0, z1, z2, z3⟩ := hSw | obtain ⟨z0, z1, z2⟩ := hSw | obtain ⟨z0, z1⟩ := hSw | skip); go_simp; try with_reducible rfl)
        simp only [Act.put, List.setIfInBounds_toArray, List.set_cons_zero, List.set_cons_succ]
        refine wpAnyH_take (i := 2) (oi := ?oi728) (v := ?val728) ?hi728 ?hs728 ?hf728 ?hr728 ?hQ728 ?hy728 ?hS728 ?hrest728
        case hi728 => (simp only [List.getElem?_toArray, List.getElem?_cons_succ, List.getElem?_cons_zero] <;> exact rfl)
        case hs728 => kernel_rfl
        case hf728 => kernel_rfl
        case hr728 => kernel_rfl
        case hQ728 => exact fun _ _ _ h => h
        case hS728 => assumption
        case hy728 => (refine Or.inl ⟨by rfl, ?_⟩; intro w hSw; (try dsimp only at hSw); (first | obtain ⟨z0, z1, z2, z3, z4, z5⟩ := hSw | obtain ⟨z0, z1, z2, z3⟩ := hSw | obtain ⟨z0, z1, z2⟩ := hSw | obtain ⟨z0, z1⟩ := hSw | skip); go_simp; try with_reducible rfl)
        simp only [Act.put, List.setIfInBounds_toArray, List.set_cons_zero, List.set_cons_succ]
        refine wpAnyH_take (i := 3) (oi := ?oi737) (v := ?val737) ?hi737 ?hs737 ?hf737 ?hr737 ?hQ737 ?hy737 ?hS737 ?hrest737
        case hi737 => (simp only [List.getElem?_toArray, List.getElem?_cons_succ, List.getElem?_cons_zero] <;> exact rfl)
        case hs737 => kernel_rfl
        case hf737 => kernel_rfl
        case hr737 => kernel_rfl
        case hQ737 => exact fun _ _ _ h => h
        case hS737 => assumption
        case hy737 => (refine Or.inl ⟨by rfl, ?_⟩; intro w hSw; (try dsimp only at hSw); (first | obtain ⟨z0, z1, z2, z3, z4, z5⟩ := hSw | obtain ⟨z0, z1, z2, z3⟩ := hSw | obtain ⟨z0, z1, z2⟩ := hSw | obtain ⟨z0, z1⟩ := hSw | skip); go_simp; try with_reducible rfl)
        simp only [Act.put, List.setIfInBounds_toArray, List.set_cons_zero, List.set_cons_succ]
        refine wpAnyH_take (i := 4) (oi := ?oi746) (v := ?val746) ?hi746 ?hs746 ?hf746 ?hr746 ?hQ746 ?hy746 ?hS746 ?hrest746
        case hi746 => (simp only [List.getElem?_toArray, List.getElem?_cons_succ, List.getElem?_cons_zero] <;> exact rfl)
        case hs746 => kernel_rfl
        case hf746 => kernel_rfl
        case hr746 => kernel_rfl
        case hQ746 => exact fun _ _ _ h => h
        case hS746 => assumption
        case hy746 => (refine Or.inl ⟨by rfl, ?_⟩; intro w hSw; (try dsimp only at hSw); (first | obtain ⟨z0, z1, z2, z3, z4, z5⟩ := hSw | obtain ⟨z0, z1, z2, z3⟩ := hSw | obtain ⟨z0, z1, z2⟩ := hSw | obtain ⟨z0, z1⟩ := hSw | skip); go_simp; try with_reducible rfl)
        simp only [Act.put, List.setIfInBounds_toArray, List.set_cons_zero, List.set_cons_succ]
        refine wpAnyH_take (i := 5) (oi := ?oi755) (v := ?val755) ?hi755 ?hs755 ?hf755 ?hr755 ?hQ755 ?hy755 ?hS755 ?hrest755
        case hi755 => (simp only [List.getElem?_toArray, List.getElem?_cons_succ, List.getElem?_cons_zero] <;> exact rfl)
        case hs755 => kernel_rfl
        case hf755 => kernel_rfl
        case hr755 => kernel_rfl
        case hQ755 => exact fun _ _ _ h => h
        case hS755 => assumption
        case hy755 => (refine Or.inl ⟨by rfl, ?_⟩; intro w hSw; (try dsimp only at hSw); (first | obtain ⟨z0, z1, z2, z3, z4, z5⟩ := hSw | obtain ⟨z0, z1, z2, z3⟩ := hSw | obtain ⟨z0, z1, z2⟩ := hSw | obtain ⟨z0, z1⟩ := hSw | skip); go_simp; try with_reducible rfl)
        simp only [Act.put, List.setIfInBounds_toArray, List.set_cons_zero, List.set_cons_succ]
        refine wpAnyH_take (i := 6) (oi := ?oi764) (v := ?val764) ?hi764 ?hs764 ?hf764 ?hr764 ?hQ764 ?hy764 ?hS764 ?hrest764
        case hi764 => (simp only [List.getElem?_toArray, List.getElem?_cons_succ, List.getElem?_cons_zero] <;> exact rfl)
        case hs764 => kernel_rfl
        case hf764 => kernel_rfl
        case hr764 => kernel_rfl
        case hQ764 => exact fun _ _ _ h => h
        case hS764 => assumption
        case hy764 => (refine Or.inl ⟨by rfl, ?_⟩; intro w hSw; (try dsimp only at hSw); (first | obtain ⟨z0, z1, z2, z3, z4, z5⟩ := hSw | obtain ⟨z0, z1, z2, z3⟩ := hSw | obtain ⟨z0, z1, z2⟩ := hSw | obtain ⟨z0, z1⟩ := hSw | skip); go_simp; try with_reducible rfl)
        simp only [Act.put, List.setIfInBounds_toArray, List.set_cons_zero, List.set_cons_succ]
        refine wpAnyH_take (i := 7) (oi := ?oi773) (v := ?val773) ?hi773 ?hs773 ?hf773 ?hr773 ?hQ773 ?hy773 ?hS773 ?hrest773
        case hi773 => (simp only [List.getElem?_toArray, List.getElem?_cons_succ, List.getElem?_cons_zero] <;> exact rfl)
        case hs773 => kernel_rfl
        case hf773 => kernel_rfl
        case hr773 => kernel_rfl
        case hQ773 => exact fun _ _ _ h => h
        case hS773 => assumption
        case hy773 => (refine Or.inl ⟨by rfl, ?_⟩; intro w hSw; (try dsimp only at hSw); (first | obtain ⟨z0, z1, z2, z3, z4, z5⟩ := hSw | obtain ⟨z0, z1, z2, z3⟩ := hSw | obtain ⟨z0, z1, z2⟩ := hSw | obtain ⟨z0, z1⟩ := hSw | skip); go_simp; try with_reducible rfl)
        simp only [Act.put, List.setIfInBounds_toArray, List.set_cons_zero, List.set_cons_succ]
        refine wpAnyH_take (i := 8) (oi := ?oi782) (v := ?val782) ?hi782 ?hs782 ?hf782 ?hr782 ?hQ782 ?hy782 ?hS782 ?hrest782
        case hi782 => (simp only [List.getElem?_toArray, List.getElem?_cons_succ, List.getElem?_cons_zero] <;> exact rfl)
        case hs782 => kernel_rfl
        case hf782 => kernel_rfl
        case hr782 => kernel_rfl
        case hQ782 => exact fun _ _ _ h => h
        case hS782 => assumption
        case hy782 => (refine Or.inl ⟨by rfl, ?_⟩; intro w hSw; (try dsimp only at hSw); (first | obtain ⟨z0, z1, z2, z3, z4, z5⟩ := hSw | obtain ⟨z0, z1, z2, z3⟩ := hSw | obtain ⟨z0, z1, z2⟩ := hSw | obtain ⟨z0, z1⟩ := hSw | skip); go_simp; try with_reducible rfl)
        simp only [Act.put, List.setIfInBounds_toArray, List.set_cons_zero, List.set_cons_succ]
        refine wpAnyH_take (i := 9) (oi := ?oi791) (v := ?val791) ?hi791 ?hs791 ?hf791 ?hr791 ?hQ791 ?hy791 ?hS791 ?hrest791
        case hi791 => (simp only [List.getElem?_toArray, List.getElem?_cons_succ, List.getElem?_cons_zero] <;> exact rfl)
        case hs791 => kernel_rfl
        case hf791 => kernel_rfl
        case hr791 => kernel_rfl
        case hQ791 => exact fun _ _ _ h => h
        case hS791 => assumption
        case hy791 => (refine Or.inl ⟨by rfl, ?_⟩; intro w hSw; (try dsimp only at hSw); (first | obtain ⟨z0, z1, z2, z3, z4, z5⟩ := hSw | obtain ⟨z0, z1, z2, z3⟩ := hSw | obtain ⟨z0, z1, z2⟩ := hSw | obtain ⟨z0, z1⟩ := hSw | skip); go_simp; try with_reducible rfl)
        simp only [Act.put, List.setIfInBounds_toArray, List.set_cons_zero, List.set_cons_succ]
        rw [show decide (f < f') = false from decide_eq_false (by omega)]
        refine wpAnyH_take (i := 10) (oi := ?oi801) (v := ?val801) ?hi801 ?hs801 ?hf801 ?hr801 ?hQ801 ?hy801 ?hS801 ?hrest801
        case hi801 => (simp only [List.getElem?_toArray, List.getElem?_cons_succ, List.getElem?_cons_zero] <;> exact rfl)
        case hs801 => kernel_rfl
        case hf801 => kernel_rfl
        case hr801 => kernel_rfl
        case hQ801 => exact fun _ _ _ h => h
        case hS801 => assumption
        case hy801 => (refine Or.inl ⟨by rfl, ?_⟩; intro w hSw; (try dsimp only at hSw); (first | obtain ⟨z0, z1, z2, z3, z4, z5⟩ := hSw | obtain ⟨z0, z1, z2, z3⟩ := hSw | obtain ⟨z0, z1, z2⟩ := hSw | obtain ⟨z0, z1⟩ := hSw | skip); go_simp; try with_reducible rfl)
        simp only [Act.put, List.setIfInBounds_toArray, List.set_cons_zero, List.set_cons_succ]
        refine wpAnyH_take (i := 11) (oi := ?oi810) (v := ?val810) ?hi810 ?hs810 ?hf810 ?hr810 ?hQ810 ?hy810 ?hS810 ?hrest810
        case hi810 => (simp only [List.getElem?_toArray, List.getElem?_cons_succ, List.getElem?_cons_zero] <;> exact rfl)
        case hs810 => kernel_rfl
        case hf810 => kernel_rfl
        case hr810 => kernel_rfl
        case hQ810 => exact fun _ _ _ h => h
        case hS810 => assumption
        case hy810 => (refine Or.inl ⟨by rfl, ?_⟩; intro w hSw; (try dsimp only at hSw); (first | obtain ⟨z0, z1, z2, z3, z4, z5⟩ := hSw | obtain ⟨z0, z1, z2, z3⟩ := hSw | obtain ⟨z0, z1, z2⟩ := hSw | obtain ⟨z0, z1⟩ := hSw | skip); go_simp; try with_reducible rfl)
        simp only [Act.put, List.setIfInBounds_toArray, List.set_cons_zero, List.set_cons_succ]
        refine wpAnyH_take (i := 12) (oi := ?oi819) (v := ?val819) ?hi819 ?hs819 ?hf819 ?hr819 ?hQ819 ?hy819 ?hS819 ?hrest819
        case hi819 => (simp only [List.getElem?_toArray, List.getElem?_cons_succ, List.getElem?_cons_zero] <;> exact rfl)
        case hs819 => kernel_rfl
        case hf819 => kernel_rfl
        case hr819 => kernel_rfl
        case hQ819 => exact fun _ _ _ h => h
        case hS819 => assumption
        case hy819 => (refine Or.inl ⟨by rfl, ?_⟩; intro w hSw; (try dsimp only at hSw); (first | obtain ⟨z0, z1, z2, z3, z4, z5⟩ := hSw | obtain ⟨z0, z1, z2, z3⟩ := hSw | obtain ⟨z0, z1, z2⟩ := hSw | obtain ⟨z0, z1⟩ := hSw | skip); go_simp; try with_reducible rfl)
        simp only [Act.put, List.setIfInBounds_toArray, List.set_cons_zero, List.set_cons_succ]
        refine wpAnyH_take (i := 13) (oi := ?oi828) (v := ?val828) ?hi828 ?hs828 ?hf828 ?hr828 ?hQ828 ?hy828 ?hS828 ?hrest828
        case hi828 => (simp only [List.getElem?_toArray, List.getElem?_cons_succ, List.getElem?_cons_zero] <;> exact rfl)
        case hs828 => kernel_rfl
        case hf828 => kernel_rfl
        case hr828 => kernel_rfl
        case hQ828 => exact fun _ _ _ h => h
        case hS828 => assumption
        case hy828 => (refine Or.inl ⟨by rfl, ?_⟩; intro w hSw; (try dsimp only at hSw); (first | obtain ⟨z0, z1, z2, z3, z4, z5⟩ := hSw | obtain ⟨z0, z1, z2, z3⟩ := hSw | obtain ⟨z0, z1, z2⟩ := hSw | obtain ⟨z0, z1⟩ := hSw | skip); go_simp; try with_reducible rfl)
        simp only [Act.put, List.setIfInBounds_toArray, List.set_cons_zero, List.set_cons_succ]
        refine wpAnyH_take (i := 14) (oi := ?oi837) (v := ?val837) ?hi837 ?hs837 ?hf837 ?hr837 ?hQ837 ?hy837 ?hS837 ?hrest837
        case hi837 => (simp only [List.getElem?_toArray, List.getElem?_cons_succ, List.getElem?_cons_zero] <;> exact rfl)
        case hs837 => kernel_rfl
        case hf837 => kernel_rfl
        case hr837 => kernel_rfl
        case hQ837 => exact fun _ _ _ h => h
        case hS837 => assumption
        case hy837 => (refine Or.inl ⟨by rfl, ?_⟩; intro w hSw; (try dsimp only at hSw); (first | obtain ⟨z0, z1, z2, z3, z4, z5⟩ := hSw | obtain ⟨z0, z1, z2, z3⟩ := hSw | obtain ⟨z0, z1, z2⟩ := hSw | obtain ⟨z0, z1⟩ := hSw | skip); go_simp; try with_reducible rfl)
        simp only [Act.put, List.setIfInBounds_toArray, List.set_cons_zero, List.set_cons_succ]
        refine wpAnyH_take (i := 15) (oi := ?oi846) (v := ?val846) ?hi846 ?hs846 ?hf846 ?hr846 ?hQ846 ?hy846 ?hS846 ?hrest846
        case hi846 => (simp only [List.getElem?_toArray, List.getElem?_cons_succ, List.getElem?_cons_zero] <;> exact rfl)
        case hs846 => kernel_rfl
        case hf846 => kernel_rfl
        case hr846 => kernel_rfl
        case hQ846 => exact fun _ _ _ h => h
        case hS846 => assumption
        case hy846 => (refine Or.inl ⟨by rfl, ?_⟩; intro w hSw; (try dsimp only at hSw); (first | obtain ⟨z0, z1, z2, z3, z4, z5⟩ := hSw | obtain ⟨z0, z1, z2, z3⟩ := hSw | obtain ⟨z0, z1, z2⟩ := hSw | obtain ⟨z0, z1⟩ := hSw | skip); go_simp; try with_reducible rfl)
        simp only [Act.put, List.setIfInBounds_toArray, List.set_cons_zero, List.set_cons_succ]
        refine wpAnyH_take (i := 16) (oi := ?oi855) (v := ?val855) ?hi855 ?hs855 ?hf855 ?hr855 ?hQ855 ?hy855 ?hS855 ?hrest855
        case hi855 => (simp only [List.getElem?_toArray, List.getElem?_cons_succ, List.getElem?_cons_zero] <;> exact rfl)
        case hs855 => kernel_rfl
        case hf855 => kernel_rfl
        case hr855 => kernel_rfl
        case hQ855 => exact fun _ _ _ h => h
        case hS855 => assumption
        case hy855 => (refine Or.inl ⟨by rfl, ?_⟩; intro w hSw; (try dsimp only at hSw); (first | obtain ⟨z0, z1, z2, z3, z4, z5⟩ := hSw | obtain ⟨z0, z1, z2, z3⟩ := hSw | obtain ⟨z0, z1, z2⟩ := hSw | obtain ⟨z0, z1⟩ := hSw | skip); go_simp; try with_reducible rfl)
        simp only [Act.put, List.setIfInBounds_toArray, List.set_cons_zero, List.set_cons_succ]
        refine wpAnyH_take (i := 17) (oi := ?oi864) (v := ?val864) ?hi864 ?hs864 ?hf864 ?hr864 ?hQ864 ?hy864 ?hS864 ?hrest864
        case hi864 => (simp only [List.getElem?_toArray, List.getElem?_cons_succ, List.getElem?_cons_zero] <;> exact rfl)
        case hs864 => kernel_rfl
        case hf864 => kernel_rfl
        case hr864 => kernel_rfl
        case hQ864 => exact fun _ _ _ h => h
        case hS864 => assumption
        case hy864 => (refine Or.inl ⟨by rfl, ?_⟩; intro w hSw; (try dsimp only at hSw); (first | obtain ⟨z0, z1, z2, z3, z4, z5⟩ := hSw | obtain ⟨z0, z1, z2, z3⟩ := hSw | obtain ⟨z0, z1, z2⟩ := hSw | obtain ⟨z0, z1⟩ := hSw | skip); go_simp; try with_reducible rfl)
        simp only [Act.put, List.setIfInBounds_toArray, List.set_cons_zero, List.set_cons_succ]
        refine wpAnyH_take (i := 18) (oi := ?oi873) (v := ?val873) ?hi873 ?hs873 ?hf873 ?hr873 ?hQ873 ?hy873 ?hS873 ?hrest873
        case hi873 => (simp only [List.getElem?_toArray, List.getElem?_cons_succ, List.getElem?_cons_zero] <;> exact rfl)
        case hs873 => kernel_rfl
        case hf873 => kernel_rfl
        case hr873 => kernel_rfl
        case hQ873 => exact fun _ _ _ h => h
        case hS873 => assumption
        case hy873 => (refine Or.inl ⟨by rfl, ?_⟩; intro w hSw; (try dsimp only at hSw); (first | obtain ⟨z0, z1, z2, z3, z4, z5⟩ := hSw | obtain ⟨z0, z1, z2, z3⟩ := hSw | obtain ⟨z0, z1, z2⟩ := hSw | obtain ⟨z0, z1⟩ := hSw | skip); go_simp; try with_reducible rfl)
        simp only [Act.put, List.setIfInBounds_toArray, List.set_cons_zero, List.set_cons_succ]
        refine wpAnyH_take (i := 19) (oi := ?oi882) (v := ?val882) ?hi882 ?hs882 ?hf882 ?hr882 ?hQ882 ?hy882 ?hS882 ?hrest882
        case hi882 => (simp only [List.getElem?_toArray, List.getElem?_cons_succ, List.getElem?_cons_zero] <;> exact rfl)
        case hs882 => kernel_rfl
        case hf882 => kernel_rfl
        case hr882 => kernel_rfl
        case hQ882 => exact fun _ _ _ h => h
        case hS882 => assumption
        case hy882 => (refine Or.inl ⟨by rfl, ?_⟩; intro w hSw; (try dsimp only at hSw); (first | obtain ⟨z0, z1, z2, z3, z4, z5⟩ := hSw | obtain ⟨z0, z1, z2, z3⟩ := hSw | obtain ⟨z0, z1, z2⟩ := hSw | obtain ⟨z0, z1⟩ := hSw | skip); go_simp; try with_reducible rfl)
        simp only [Act.put, List.setIfInBounds_toArray, List.set_cons_zero, List.set_cons_succ]
        try rw [show (f' == f) = false by simp; omega]
        refine wpAnyH_take (i := 20) (oi := ?oi892) (v := undef) ?hi892 ?hs892 ?hf892 ?hr892 ?hQ892 ?hy892 ?hS892 ?hrest892
        case hi892 => (simp only [List.getElem?_toArray, List.getElem?_cons_succ, List.getElem?_cons_zero] <;> exact rfl)
        case hs892 => kernel_rfl
        case hf892 => kernel_rfl
        case hr892 => kernel_rfl
        case hQ892 => exact fun _ _ _ h => h
        case hS892 => assumption
        case hy892 => exact Or.inr ⟨by rfl, rfl⟩
        simp only [Act.put, List.setIfInBounds_toArray, List.set_cons_zero, List.set_cons_succ]
        refine wpAnyH_take (i := 21) (oi := ?oi901) (v := undef) ?hi901 ?hs901 ?hf901 ?hr901 ?hQ901 ?hy901 ?hS901 ?hrest901
        case hi901 => (simp only [List.getElem?_toArray, List.getElem?_cons_succ, List.getElem?_cons_zero] <;> exact rfl)
        case hs901 => kernel_rfl
        case hf901 => kernel_rfl
        case hr901 => kernel_rfl
        case hQ901 => exact fun _ _ _ h => h
        case hS901 => assumption
        case hy901 => exact Or.inr ⟨by rfl, rfl⟩
        simp only [Act.put, List.setIfInBounds_toArray, List.set_cons_zero, List.set_cons_succ]
        refine wpAnyH_take (i := 22) (oi := ?oi910) (v := undef) ?hi910 ?hs910 ?hf910 ?hr910 ?hQ910 ?hy910 ?hS910 ?hrest910
        case hi910 => (simp only [List.getElem?_toArray, List.getElem?_cons_succ, List.getElem?_cons_zero] <;> exact rfl)
        case hs910 => kernel_rfl
        case hf910 => kernel_rfl
        case hr910 => kernel_rfl
        case hQ910 => exact fun _ _ _ h => h
        case hS910 => assumption
        case hy910 => exact Or.inr ⟨by rfl, rfl⟩
        simp only [Act.put, List.setIfInBounds_toArray, List.set_cons_zero, List.set_cons_succ]
        refine wpAnyH_take (i := 23) (oi := ?oi919) (v := undef) ?hi919 ?hs919 ?hf919 ?hr919 ?hQ919 ?hy919 ?hS919 ?hrest919
        case hi919 => (simp only [List.getElem?_toArray, List.getElem?_cons_succ, List.getElem?_cons_zero] <;> exact rfl)
        case hs919 => kernel_rfl
        case hf919 => kernel_rfl
        case hr919 => kernel_rfl
        case hQ919 => exact fun _ _ _ h => h
        case hS919 => assumption
        case hy919 => exact Or.inr ⟨by rfl, rfl⟩
        simp only [Act.put, List.setIfInBounds_toArray, List.set_cons_zero, List.set_cons_succ]
        refine wpAnyH_take (i := 24) (oi := ?oi928) (v := undef) ?hi928 ?hs928 ?hf928 ?hr928 ?hQ928 ?hy928 ?hS928 ?hrest928
        case hi928 => (simp only [List.getElem?_toArray, List.getElem?_cons_succ, List.getElem?_cons_zero] <;> exact rfl)
        case hs928 => kernel_rfl
        case hf928 => kernel_rfl
        case hr928 => kernel_rfl
        case hQ928 => exact fun _ _ _ h => h
        case hS928 => assumption
        case hy928 => exact Or.inr ⟨by rfl, rfl⟩
        simp only [Act.put, List.setIfInBounds_toArray, List.set_cons_zero, List.set_cons_succ]
        refine wpAnyH_take (i := 25) (oi := ?oi937) (v := undef) ?hi937 ?hs937 ?hf937 ?hr937 ?hQ937 ?hy937 ?hS937 ?hrest937
        case hi937 => (simp only [List.getElem?_toArray, List.getElem?_cons_succ, List.getElem?_cons_zero] <;> exact rfl)
        case hs937 => kernel_rfl
        case hf937 => kernel_rfl
        case hr937 => kernel_rfl
        case hQ937 => exact fun _ _ _ h => h
        case hS937 => assumption
        case hy937 => exact Or.inr ⟨by rfl, rfl⟩
        simp only [Act.put, List.setIfInBounds_toArray, List.set_cons_zero, List.set_cons_succ]
        refine wpAnyH_take (i := 26) (oi := ?oi946) (v := ?val946) ?hi946 ?hs946 ?hf946 ?hr946 ?hQ946 ?hy946 ?hS946 ?hrest946
        case hi946 => (simp only [List.getElem?_toArray, List.getElem?_cons_succ, List.getElem?_cons_zero] <;> exact rfl)
        case hs946 => kernel_rfl
        case hf946 => kernel_rfl
        case hr946 => kernel_rfl
        case hQ946 => exact fun _ _ _ h => h
        case hS946 => assumption
        case hy946 => (refine Or.inl ⟨by rfl, ?_⟩; intro w hSw; (try dsimp only at hSw); (first | obtain ⟨z0, z1, z2, z3, z4, z5⟩ := hSw | obtain ⟨z0, z1, z2, z3⟩ := hSw | obtain ⟨z0, z1, z2⟩ := hSw | obtain ⟨z0, z1⟩ := hSw | skip); go_simp; try with_reducible rfl)
        simp only [Act.put, List.setIfInBounds_toArray, List.set_cons_zero, List.set_cons_succ]
        refine wpAnyH_take (i := 27) (oi := ?oi955) (v := ?val955) ?hi955 ?hs955 ?hf955 ?hr955 ?hQ955 ?hy955 ?hS955 ?hrest955
        case hi955 => (simp only [List.getElem?_toArray, List.getElem?_cons_succ, List.getElem?_cons_zero] <;> exact rfl)
        case hs955 => kernel_rfl
        case hf955 => kernel_rfl
        case hr955 => kernel_rfl
        case hQ955 => exact fun _ _ _ h => h
        case hS955 => assumption
        case hy955 => (refine Or.inl ⟨by rfl, ?_⟩; intro w hSw; (try dsimp only at hSw); (first | obtain ⟨z0, z1, z2, z3, z4, z5⟩ := hSw | obtain ⟨z0, z1, z2, z3⟩ := hSw | obtain ⟨z0, z1, z2⟩ := hSw | obtain ⟨z0, z1⟩ := hSw | skip); go_simp; try with_reducible rfl)
        simp only [Act.put, List.setIfInBounds_toArray, List.set_cons_zero, List.set_cons_succ]
        refine wpAnyH_done (by kernel_rfl) ?_ _
        clear hHeld
        go_wp2_with fail
        go_roundw
        case rel => exact ⟨q + 1, B, rfl, by go_num, by omega, Lib.hid E3.out.symm, hB.drew⟩
        case measure => simp [intOf] <;> omega
    · have : q = p := by omega
      subst this
      have hW9 := hW4.trans (hB.mono hW4.size)
      have e5 : fwS l rs u lim = x := by rw [E1.out, ← Hp.out, ← HB.out, ← hxB]
      have e6 : fwF l rs u lim = f := by rw [E2.out, ← Hp.out, ← HB.out, ← hxB]
      have Hx := Lib.hid hx
      clear hx
      have HxB := Lib.hid hxB
      clear hxB
      have E5 := Lib.hid e5
      clear e5
      have E6 := Lib.hid e6
      clear e6
      have HW9 := Lib.hid hW9
      clear hW9
      have HB := Lib.hid hB
      clear hB
      go_wp2_with fail
      go_region
      all_goals
        go_wp2_with fail
        go_ret2
        rw [E5.out, E6.out]
        exact ⟨rfl, HW9.out.drew⟩

set_option maxRecDepth 100000 in
set_option maxHeartbeats 4000000 in
theorem implFarthestWord_any (l : Int) (A : Option Addr) (n c : Nat) (rs : List RuleT) (u : ByteArray) (lim : Int) (w : World) (hr : Rd w A (cellsRule rs)) (hn : n = rs.length) (hb : n ≤ 1048576) (hz : ∀ x ∈ rs, x.1.size ≤ 1048576 ∧ x.2.size ≤ 1048576) (hs : u.size ≤ 1048576) :
    Calls Try.prog 27 #[.agg #[.int .i64 l, .slice A n c], .string u, .int .i64 lim] w (Kept w (.tuple #[.string (fwS l rs u lim), .int .i64 (fwF l rs u lim)])) := by
  have hW0 : Below w.heap.size w (w.alloc (.cells #[.int .i64 l, .slice A n c] 29)) := (Below.refl _ _).alloc (Nat.le_refl _) _
  have hS0 := Bk.new w 29 #[.int .i64 l, .slice A n c]
  have Hr := Lib.hid hr
  clear hr
  have Hn := Lib.hid hn
  clear hn
  have Hz := Lib.hid hz
  clear hz
  go_enter Try.func27, Try.ntmps27
  go_wp2_with fail
  with_reducible refine (implSearched_any l A n c rs u lim _ (Hr.out.keep hW0) Hn.out hb Hz.out hs).mono ?_
  rintro e w1 ⟨rfl, b1⟩
  have hW1 := hW0.trans (b1.mono hW0.size)
  have hS1 := hS0.below b1 hS0.lt
  have s0_1 : w1.cell? ⟨w.heap.size, 0, none⟩ = some (.int .i64 l) := by rw [hS1.cell]; rfl
  have s1_1 : w1.cell? ⟨w.heap.size, 1, none⟩ = some (.slice A n c) := by rw [hS1.cell]; rfl
  have sl_1 := hS1.lt
  clear b1
  obtain ⟨r1, hrr⟩ : ∃ r', r' = (searched l rs u lim) := ⟨_, rfl⟩
  rw [← hrr]
  have H1 := Lib.hid hrr
  clear hrr
  cases r1
  · have e1 : fwS l rs u lim = ⟨#[]⟩ := by rw [fwS, ← H1.out]; rfl
    have e2 : fwF l rs u lim = -1 := by rw [fwF, ← H1.out]; rfl
    have E1 := Lib.hid e1
    clear e1
    have E2 := Lib.hid e2
    clear e2
    go_wp2_with fail
    go_ret2
    rw [E1.out, E2.out]
    exact ⟨rfl, hW1⟩
  obtain ⟨hso, hwu⟩ : searchOk l rs lim = true ∧ word15 l u lim = true := by
    have h := H1.out.symm
    unfold searched at h
    simpa using h
  obtain ⟨hro, hg8, hl8⟩ := searched_out hso hwu
  obtain ⟨S, hS⟩ : ∃ S, S = srAll rs u lim := ⟨_, rfl⟩
  have hgd := srAll_good hro hl8 hg8
  have hpos := srAll_pos rs u lim
  have hlen := srGood_len hgd
  have hsr := implSearch_any l A n c rs u lim w1 (Hr.out.keep hW1) Hn.out hb Hz.out hro hg8 hl8
  have e1 : fwS l rs u lim = (srAt (srAll rs u lim) (fwTo (srAll rs u lim) (srAll rs u lim).length)).1 := by rw [fwS, if_pos H1.out.symm, fwAt]
  have e2 : fwF l rs u lim = (srAt (srAll rs u lim) (fwTo (srAll rs u lim) (srAll rs u lim).length)).2.2.2 := by rw [fwF, if_pos H1.out.symm, fwAt]
  rw [← hS] at hgd hpos hlen hsr e1 e2
  have Hgd := Lib.hid hgd
  clear hgd
  have HS := Lib.hid hS
  clear hS
  have Hro := Lib.hid hro
  clear hro
  have Hg8 := Lib.hid hg8
  clear hg8
  have Hsr := Lib.hid hsr
  clear hsr
  have Hso := Lib.hid hso
  clear hso
  have Hwu := Lib.hid hwu
  clear hwu
  have E1 := Lib.hid e1
  clear e1
  have E2 := Lib.hid e2
  clear e2
  go_wp2_with fail
  refine Hsr.out.mono ?_
  rintro e w3 ⟨gm, g1, c1, nM, D, rfl, hmp, hM, o1, b3, hgm⟩
  have hW3 := hW1.trans (b3.mono hW1.size)
  obtain ⟨p, hp⟩ : ∃ p, p = S.length := ⟨_, rfl⟩
  rw [← hp] at o1 hlen hpos ⊢
  have h00 : 0 < S.length := by rw [← hp]; exact hpos
  have k00 := o1.cell (srAt_cell h00).1
  obtain ⟨x00, hx00⟩ : ∃ x, x = (srAt S 0).1 := ⟨_, rfl⟩
  rw [← hx00] at k00
  have hgml := hmp.lt
  clear b3 s0_1 s1_1 sl_1 hS1 hW1
  have hB0 := Below.refl w3.heap.size w3
  have Hp := Lib.hid hp
  clear hp
  have O1 := Lib.hid o1
  clear o1
  have HB0 := Lib.hid hB0
  clear hB0
  have Hmp := Lib.hid hmp
  clear hmp
  have HM := Lib.hid hM
  clear hM
  have Hx00 := Lib.hid hx00
  clear hx00
  go_wp2_with fail
  go_loopw [10, 30] (fun b iv wr => ∃ (q B : Nat) (x : ByteArray), b = .string x ∧ iv = .int .i64 (q : Int) ∧ q ≤ p ∧ Hid (B = fwTo S q) ∧ Hid (x = (srAt S B).1) ∧ Below w3.heap.size w3 wr) (fun _ iv _ => p - (intOf iv).toNat)
  case atStart => exact ⟨0, 0, x00, rfl, rfl, Nat.zero_le _, Lib.hid rfl, Hx00, HB0.out⟩
  case round =>
    clear HB0 k00
    obtain ⟨q, B, x, rfl, rfl, hq, HB, HX, hB⟩ := hrel
    have hBp : B < p := by rw [HB.out, Hp.out]; exact fwTo_lt (by rw [← Hp.out]; exact hpos) q (by rw [← Hp.out]; exact hq)
    have hBS : B < S.length := by rw [← Hp.out]; exact hBp
    have hwB := (Hgd.out.2.1 _ (srAt_word hBS)).2.2
    rw [← HX.out] at hwB
    have hfB := sr_find Hgd.out hBS
    rw [← HX.out] at hfB
    have hmr := map_keep Hmp.out hB hgml
    obtain ⟨v1, ps1, hlk, hv1⟩ := hmr.lookup (Maps.string_keyed Try.underlying9) Try.underlying78 (zero_arr _) (arrR_mk (⟨#[]⟩, (0, 0, false), 0)) (key_str (x := x) (by omega))
    rw [(HM.out.2 x).2 B _ hfB] at hv1
    have hvv := arrR_inv hv1
    obtain ⟨⟨f0, ⟨f1, f2, f3⟩, f⟩, hf⟩ : ∃ z, z = arrOf S B := ⟨_, rfl⟩
    rw [← hf] at hvv
    subst hvv
    have hff : f = (srAt S B).2.2.2 := congrArg (fun z => z.2.2) hf
    have hfd : ∀ W : World, (Instr.field 82 (.agg #[.string f0, .int .i64 f1, .int .i64 f2, .bool f3, .int .i64 f]) 2).run Try.prog W = .ok (.int .i64 f) W := fun W => by rfl
    clear hv1
    by_cases hlt : q < p
    · have hlk' : (Instr.lookup 78 (.map (some gm)) (.string x) false).run Try.prog wr = .ok (.agg #[.string f0, .int .i64 f1, .int .i64 f2, .bool f3, .int .i64 f]) wr := hlk
      have hqS : q < S.length := by rw [← Hp.out]; exact hlt
      have hqi : (q : Int) < (p : Int) := by omega
      have m1 := (O1.out.below hB).cell (srAt_cell hqS).1
      have hwq := (Hgd.out.2.1 _ (srAt_word hqS)).2.2
      have hfq := sr_find Hgd.out hqS
      obtain ⟨y, hy⟩ : ∃ y, y = (srAt S q).1 := ⟨_, rfl⟩
      rw [← hy] at m1 hwq hfq
      obtain ⟨v2, ps2, hlk2, hv2⟩ := hmr.lookup (Maps.string_keyed Try.underlying9) Try.underlying78 (zero_arr _) (arrR_mk (⟨#[]⟩, (0, 0, false), 0)) (key_str (x := y) (by omega))
      rw [(HM.out.2 y).2 q _ hfq] at hv2
      have hvv := arrR_inv hv2
      obtain ⟨⟨f0', ⟨f1', f2', f3'⟩, f'⟩, hf'⟩ : ∃ z, z = arrOf S q := ⟨_, rfl⟩
      rw [← hf'] at hvv
      subst hvv
      have hff' : f' = (srAt S q).2.2.2 := congrArg (fun z => z.2.2) hf'
      have hfd' : ∀ W : World, (Instr.field 82 (.agg #[.string f0', .int .i64 f1', .int .i64 f2', .bool f3', .int .i64 f']) 2).run Try.prog W = .ok (.int .i64 f') W := fun W => by rfl
      have hlk2' : (Instr.lookup 78 (.map (some gm)) (.string y) false).run Try.prog wr = .ok (.agg #[.string f0', .int .i64 f1', .int .i64 f2', .bool f3', .int .i64 f']) wr := hlk2
      clear hlk hlk2 hv2
      have hcond : ∃ r : Bool, r = decide (orI (cmpI f f') (cmpW y x) < 0) ∧ fwTo S (q + 1) = if r = true then q else B := by
        refine ⟨_, rfl, ?_⟩
        rcases Int.lt_trichotomy f f' with h | h | h
        · rw [if_pos]
          · exact fwTo_gt HB.out (by rw [← hff, ← hff']; exact h)
          · rw [show cmpI f f' = -1 by unfold cmpI; rw [if_pos h]]; unfold orI; rw [if_neg (by omega)]; decide
        · have e : orI (cmpI f f') (cmpW y x) = cmpW y x := by unfold orI; rw [if_pos]; unfold cmpI; rw [if_neg (by omega), if_neg (by omega)]
          rw [e, less_cmp]
          cases hl : lessW y x
          · rw [if_neg (by simp)]; exact fwTo_not HB.out (by rw [← hff, ← hff', h]) (by rw [← hy, ← HX.out]; exact hl)
          · rw [if_pos rfl]; exact fwTo_less HB.out (by rw [← hff, ← hff', h]) (by rw [← hy, ← HX.out]; exact hl)
        · rw [if_neg]
          · exact fwTo_lt2 HB.out (by rw [← hff, ← hff']; exact h)
          · rw [show cmpI f f' = 1 by unfold cmpI; rw [if_neg (by omega), if_pos h]]; unfold orI; rw [if_neg (by omega)]; decide
      obtain ⟨r, hr1, hr2⟩ := hcond
      obtain ⟨a1, ha1⟩ : ∃ a, a = cmpI f f' := ⟨_, rfl⟩
      obtain ⟨a2, ha2⟩ : ∃ a, a = cmpW y x := ⟨_, rfl⟩
      obtain ⟨a3, ha3⟩ : ∃ a, a = orI a1 a2 := ⟨_, rfl⟩
      rw [← ha1, ← ha2, ← ha3] at hr1
      have hC : ∀ W, Calls Try.prog 68 #[.int .i64 f, .int .i64 f'] W fun e w' => e = .returned (.int .i64 a1) ∧ W = w' := fun W => by rw [ha1]; exact compare_int f f' W
      have hD : ∀ W, Calls Try.prog 69 #[.string y, .string x] W (Kept W (.int .i64 a2)) := fun W => by rw [ha2]; exact compareWords_any y x W (by omega) (by omega)
      have Hf := Lib.hid hf
      clear hf
      have Hf' := Lib.hid hf'
      clear hf'
      have Hff := Lib.hid hff
      clear hff
      have Hff' := Lib.hid hff'
      clear hff'
      have Hr2 := Lib.hid hr2
      clear hr2
      have Ha1 := Lib.hid ha1
      clear ha1
      have Ha2 := Lib.hid ha2
      clear ha2
      have Hy := Lib.hid hy
      clear hy
      have HC := Lib.hid hC
      clear hC
      have HD := Lib.hid hD
      clear hD
      have Hmr := Lib.hid hmr
      clear hmr
      have HfB := Lib.hid hfB
      clear hfB
      have Hfq := Lib.hid hfq
      clear hfq
      have Hr1 := Lib.hid hr1
      clear hr1
      go_wp2_with fail
      refine (HC.out _).mono ?_
      rintro e w5 ⟨rfl, rfl⟩
      clear hlk' hlk2'
      go_wp2_with fail
      refine (HD.out _).mono ?_
      rintro e w6 ⟨rfl, b6⟩
      have hB6 := hB.trans (b6.mono hB.size)
      clear b6
      go_wp2_with fail
      refine (or_two _ _ a1 a2 _ ?_).mono ?_
      · intro _
        refine ⟨w6.heap.size, 0, rfl, by simp, fun k v hk => ?_⟩
        rw [Nat.zero_add, (Bk.new w6 3 #[Value.int .i64 a1, Value.int .i64 a2]).cell k]
        simpa [ints] using hk
      rintro e w7 ⟨rfl, rfl⟩
      have hB7 := hB6.alloc hB6.size (.cells #[Value.int .i64 a1, Value.int .i64 a2] 3)
      rw [← ha3]
      clear ha3
      have HB7 := Lib.hid hB7
      clear hB7
      by_cases h3 : a3 < 0
      · have hrt : r = true := by rw [Hr1.out]; exact decide_eq_true h3
        subst hrt
        go_wp2_with fail
        go_roundw
        case rel => exact ⟨q + 1, q, y, rfl, by go_num, by omega, Lib.hid (by rw [Hr2.out]; rfl), Hy, HB7.out⟩
        case measure => simp [intOf] <;> omega
      · have hrt : r = false := by rw [Hr1.out]; exact decide_eq_false h3
        subst hrt
        go_wp2_with fail
        go_roundw
        case rel => exact ⟨q + 1, B, x, rfl, by go_num, by omega, Lib.hid (by rw [Hr2.out]; rfl), HX, HB7.out⟩
        case measure => simp [intOf] <;> omega
    · have : q = p := by omega
      subst this
      have hlk' : (Instr.lookup 78 (.map (some gm)) (.string x) false).run Try.prog wr.drew = .ok (.agg #[.string f0, .int .i64 f1, .int .i64 f2, .bool f3, .int .i64 f]) wr.drew := by
        obtain ⟨v2, ps2, hlk2, hv2⟩ := (show wr.drew.ownsMap Try.prog 9 arrR gm nM D from hmr).lookup (Maps.string_keyed Try.underlying9) Try.underlying78 (zero_arr _) (arrR_mk (⟨#[]⟩, (0, 0, false), 0)) (key_str (x := x) (by omega))
        rw [(HM.out.2 x).2 B _ hfB, ← hf] at hv2
        rw [arrR_inv hv2] at hlk2
        exact hlk2
      clear hlk
      have hW9 := hW3.trans (hB.mono hW3.size)
      have e5 : fwS l rs u lim = x := by rw [E1.out, ← Hp.out, ← HB.out, ← HX.out]
      have e6 : fwF l rs u lim = f := by rw [E2.out, ← Hp.out, ← HB.out, ← hff]
      have Hf := Lib.hid hf
      clear hf
      have Hff := Lib.hid hff
      clear hff
      have E5 := Lib.hid e5
      clear e5
      have E6 := Lib.hid e6
      clear e6
      have HW9 := Lib.hid hW9
      clear hW9
      have HB := Lib.hid hB
      clear hB
      have Hmr := Lib.hid hmr
      clear hmr
      have HfB := Lib.hid hfB
      clear hfB
      go_wp2_with fail
      go_region
      all_goals
        go_wp2_with fail
        go_ret2
        rw [E5.out, E6.out]
        exact ⟨rfl, HW9.out.drew⟩

end Go.Proofs.Ytnlagiopmkjmlaa
