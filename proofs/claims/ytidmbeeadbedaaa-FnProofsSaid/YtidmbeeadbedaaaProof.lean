/- Walks over ProofOf (the program's and the reference's) and what it calls: both hand back the same links. -/
import Derived.Test.YtidmbeeadbedaaaTrace
import Derived.Test.YtidmbeeadbedaaaTurn
import Derived.Deep.RegionLaw
namespace Go.Proofs.Ytidmbeeadbedaaa
open Go.RowKit Go.Shelf

def linkOf (b : Bool) (x : StepT) : LinkT := (x.1, x.2, b)
theorem turn_links (xs : List StepT) : turnL (xs.map (linkOf false)) = xs.reverse.map (linkOf true) := by
  rw [turnL, ← List.map_reverse, List.map_map]
  rfl
/-- Do the two words have chains to the same reduced word, short enough? -/
def pfOk (l : Int) (rs : List RuleT) (u v : ByteArray) : Bool := takesOk l rs u && takesOk l rs v && ((normS rs u).toList == (normS rs v).toList) && decide ((trS l rs u).length + (trS l rs v).length ≤ 200)
/-- ProofOf, in plain words. -/
def pfL (l : Int) (rs : List RuleT) (u v : ByteArray) : List LinkT := if pfOk l rs u v then (trS l rs u).map (linkOf false) ++ (trS l rs v).reverse.map (linkOf true) else []
theorem pfL_len (l : Int) (rs : List RuleT) (u v : ByteArray) : (pfL l rs u v).length ≤ 1048576 := by
  unfold pfL
  split
  · next h =>
    unfold pfOk at h
    simp only [Bool.and_eq_true, decide_eq_true_eq] at h
    rw [List.length_append, List.length_map, List.length_map, List.length_reverse]
    omega
  · simp
theorem cellsLink_app (xs ys : List LinkT) : cellsLink (xs ++ ys) = cellsLink xs ++ cellsLink ys := by simp [cellsLink]
theorem one_cell_links (xs : List LinkT) : ∀ u ∈ cellsLink xs, u.oneCell' = true := by
  intro u hu
  obtain ⟨x, _, hx⟩ := List.mem_flatMap.1 hu
  simp [encLink] at hx
  rcases hx with rfl | rfl | rfl <;> rfl



set_option maxRecDepth 100000 in
set_option maxHeartbeats 4000000 in
theorem implProofOf_any (l : Int) (A : Option Addr) (n c : Nat) (rs : List RuleT) (u v : ByteArray) (w : World) (hr : Rd w A (cellsRule rs)) (hn : n = rs.length) (hb : n ≤ 1048576) (hz : ∀ x ∈ rs, x.1.size ≤ 1048576 ∧ x.2.size ≤ 1048576) (hs : u.size ≤ 1048576) (hv : v.size ≤ 1048576) :
    Calls Try.prog 16 #[.agg #[.int .i64 l, .slice A n c], .string u, .string v] w (MadeSlB w 95 3 (pfL l rs u v).length (cellsLink (pfL l rs u v)) (pfOk l rs u v)) := by
  have hW0 : Below w.heap.size w (w.alloc (.cells #[.int .i64 l, .slice A n c] 25)) := (Below.refl _ _).alloc (Nat.le_refl _) _
  have hS0 := Bk.new w 25 #[.int .i64 l, .slice A n c]
  have l1 := trS_len l rs u
  have l2 := trS_len l rs v
  have Hr := Lib.hid hr
  clear hr
  have Hn := Lib.hid hn
  clear hn
  have Hz := Lib.hid hz
  clear hz
  go_enter Try.func16, Try.ntmps16
  go_wp2_with fail
  with_reducible refine (implTraceOf_any l A n c rs u _ (Hr.out.keep hW0) Hn.out hb Hz.out hs).mono ?_
  rintro e w1 ⟨B1, d1, rfl, hO1', b1⟩
  have hW1 := hW0.trans (b1.mono hW0.size)
  have hS1 := hS0.below b1 hS0.lt
  have hO1 := own_mono hO1' hW0.size
  clear hO1'
  obtain ⟨X, hX⟩ : ∃ X, X = trS l rs u := ⟨_, rfl⟩
  obtain ⟨m1, hm1⟩ : ∃ m, m = X.length := ⟨_, rfl⟩
  obtain ⟨k1, hk1⟩ : ∃ k, k = takesOk l rs u := ⟨_, rfl⟩
  rw [← hX] at hO1 l1 ⊢
  rw [← hm1] at hO1 l1 ⊢
  rw [← hk1]
  have s0_1 : w1.cell? ⟨w.heap.size, 0, none⟩ = some (.int .i64 l) := by rw [hS1.cell]; rfl
  have s1_1 : w1.cell? ⟨w.heap.size, 1, none⟩ = some (.slice A n c) := by rw [hS1.cell]; rfl
  have sl_1 := hS1.lt
  clear hS0 hW0 b1
  have HO1 := Lib.hid hO1
  clear hO1
  have HX := Lib.hid hX
  clear hX
  have Hm1 := Lib.hid hm1
  clear hm1
  have Hk1 := Lib.hid hk1
  clear hk1
  go_wp2_with fail
  with_reducible refine (implTraceOf_any l A n c rs v _ (Hr.out.keep hW1) Hn.out hb Hz.out hv).mono ?_
  rintro e w2 ⟨B2, d2, rfl, hO2', b2⟩
  have hO12 := own_keep HO1.out b2 (Nat.le_refl _)
  have hW2 := hW1.trans (b2.mono hW1.size)
  have hS2 := hS1.below b2 hS1.lt
  have hO2 := own_mono hO2' hW1.size
  clear hO2'
  obtain ⟨Y, hY⟩ : ∃ X, X = trS l rs v := ⟨_, rfl⟩
  obtain ⟨m2, hm2⟩ : ∃ m, m = Y.length := ⟨_, rfl⟩
  obtain ⟨k2, hk2⟩ : ∃ k, k = takesOk l rs v := ⟨_, rfl⟩
  rw [← hY] at hO2 l2 ⊢
  rw [← hm2] at hO2 l2 ⊢
  rw [← hk2]
  clear HO1 s0_1 s1_1 sl_1 hS1 hW1 b2
  have s0_2 : w2.cell? ⟨w.heap.size, 0, none⟩ = some (.int .i64 l) := by rw [hS2.cell]; rfl
  have s1_2 : w2.cell? ⟨w.heap.size, 1, none⟩ = some (.slice A n c) := by rw [hS2.cell]; rfl
  have sl_2 := hS2.lt
  have HO12 := Lib.hid hO12
  clear hO12
  have HO2 := Lib.hid hO2
  clear hO2
  have HY := Lib.hid hY
  clear hY
  have Hm2 := Lib.hid hm2
  clear hm2
  have Hk2 := Lib.hid hk2
  clear hk2
  have hsum : IntKind.i64.wrap ((m1 : Int) + (m2 : Int)) = (m1 : Int) + (m2 : Int) := IntWalk.i64_in _ ⟨by omega, by omega⟩
  by_cases hok : k1 = true ∧ k2 = true
  rotate_left
  · have e0 : pfOk l rs u v = false := by
      rw [pfOk, ← Hk1.out, ← Hk2.out]
      cases k1
      · rfl
      · cases k2
        · rfl
        · exact absurd ⟨rfl, rfl⟩ hok
    have e1 : pfL l rs u v = [] := by rw [pfL, e0]; rfl
    have E0 := Lib.hid e0
    clear e0
    have E1 := Lib.hid e1
    clear e1
    cases k1
    · clear hok
      cases k2 <;>
      · go_wp2_with fail
        go_region
        go_wp2_with fail
        go_ret2
        rw [E0.out, E1.out]
        exact ⟨none, 0, rfl, World.ownsRow_nil _ _ _ _, hW2.drew⟩
    · cases k2
      · clear hok
        go_wp2_with fail
        go_region
        go_wp2_with fail
        go_ret2
        rw [E0.out, E1.out]
        exact ⟨none, 0, rfl, World.ownsRow_nil _ _ _ _, hW2.drew⟩
      · exact absurd ⟨rfl, rfl⟩ hok
  obtain ⟨rfl, rfl⟩ := hok
  have hsy := (takes_sys Hk1.out.symm).1
  obtain ⟨x, hx⟩ : ∃ x, normS rs u = x := ⟨_, rfl⟩
  obtain ⟨y, hy⟩ : ∃ y, normS rs v = y := ⟨_, rfl⟩
  have hV0 : Below w2.heap.size w2 w2.drew := (Below.refl _ _).drew
  have zS : w2.drew.cell? ⟨w.heap.size, 0, none⟩ = some (.int .i64 l) ∧ w2.drew.cell? ⟨w.heap.size, 1, none⟩ = some (.slice A n c) := ⟨s0_2, s1_2⟩
  have eS : ∀ W, Below w2.heap.size w2 W → W.cell? ⟨w.heap.size, 0, none⟩ = some (.int .i64 l) ∧ W.cell? ⟨w.heap.size, 1, none⟩ = some (.slice A n c) := fun W h => ⟨(h.cell (p := ⟨w.heap.size, 0, none⟩) hS2.lt).trans s0_2, (h.cell (p := ⟨w.heap.size, 1, none⟩) hS2.lt).trans s1_2⟩
  have eR : ∀ W, Below w2.heap.size w2 W → Rd W A (cellsRule rs) := fun W h => Hr.out.keep (hW2.trans (h.mono hW2.size))
  have hpo : pfOk l rs u v = ((x.toList == y.toList) && decide (m1 + m2 ≤ 200)) := by
    rw [pfOk, ← Hk1.out, ← Hk2.out, ← HX.out, ← HY.out, ← Hm1.out, ← Hm2.out, hx, hy]
    simp
  clear hS2 sl_2
  have Hsy := Lib.hid hsy
  clear hsy
  have Hx := Lib.hid hx
  clear hx
  have Hy := Lib.hid hy
  clear hy
  have ZS := Lib.hid zS
  clear zS
  have ES := Lib.hid eS
  clear eS
  have ER := Lib.hid eR
  clear eR
  have Hpo := Lib.hid hpo
  clear hpo
  cases hq : x.toList == y.toList
  · have e0 : pfOk l rs u v = false := by rw [Hpo.out, hq]; rfl
    have e1 : pfL l rs u v = [] := by rw [pfL, e0]; rfl
    have E0 := Lib.hid e0
    clear e0
    have E1 := Lib.hid e1
    clear e1
    go_wp2_with fail
    refine wp_region_held_drew (S := (fun W => W.cell? ⟨w.heap.size, 0, none⟩ = some (.int .i64 l) ∧ W.cell? ⟨w.heap.size, 1, none⟩ = some (.slice A n c))) (by kernel_rfl) (ZS.out) (fun hHeld => ?_)
    refine wpAnyH_take (i := 0) (oi := ?oi169) (v := ?val169) ?hi169 ?hs169 ?hf169 ?hr169 ?hQ169 ?hy169 ?hS169 ?hrest169
    case hi169 => (simp only [List.getElem?_toArray, List.getElem?_cons_succ, List.getElem?_cons_zero] <;> exact rfl)
    case hs169 => kernel_rfl
    case hf169 => kernel_rfl
    case hr169 => kernel_rfl
    case hQ169 => exact fun _ _ _ h => h
    case hS169 => assumption
    case hy169 => (refine Or.inl ⟨by rfl, ?_⟩; intro w hSw; (try dsimp only at hSw); obtain ⟨z0, z1⟩ := hSw; go_simp; try with_reducible rfl)
    simp only [Act.put, List.setIfInBounds_toArray, List.set_cons_zero, List.set_cons_succ]
    refine wpAnyH_take (i := 1) (oi := ?oi178) (v := ?val178) ?hi178 ?hs178 ?hf178 ?hr178 ?hQ178 ?hy178 ?hS178 ?hrest178
    case hi178 => (simp only [List.getElem?_toArray, List.getElem?_cons_succ, List.getElem?_cons_zero] <;> exact rfl)
    case hs178 => kernel_rfl
    case hf178 => kernel_rfl
    case hr178 => kernel_rfl
    case hQ178 => exact fun _ _ _ h => h
    case hS178 => assumption
    case hy178 => (refine Or.inl ⟨by rfl, ?_⟩; intro w hSw; (try dsimp only at hSw); obtain ⟨z0, z1⟩ := hSw; go_simp; try with_reducible rfl)
    simp only [Act.put, List.setIfInBounds_toArray, List.set_cons_zero, List.set_cons_succ]
    refine wpAnyH_take (i := 2) (oi := ?oi187) (v := ?val187) ?hi187 ?hs187 ?hf187 ?hr187 ?hQ187 ?hy187 ?hS187 ?hrest187
    case hi187 => (simp only [List.getElem?_toArray, List.getElem?_cons_succ, List.getElem?_cons_zero] <;> exact rfl)
    case hs187 => kernel_rfl
    case hf187 => kernel_rfl
    case hr187 => kernel_rfl
    case hQ187 => exact fun _ _ _ h => h
    case hS187 => assumption
    case hy187 => (refine Or.inl ⟨by rfl, ?_⟩; intro w hSw; (try dsimp only at hSw); obtain ⟨z0, z1⟩ := hSw; go_simp; try with_reducible rfl)
    simp only [Act.put, List.setIfInBounds_toArray, List.set_cons_zero, List.set_cons_succ]
    refine wpAnyH_take (i := 3) (oi := ?oi196) (v := ?val196) ?hi196 ?hs196 ?hf196 ?hr196 ?hQ196 ?hy196 ?hS196 ?hrest196
    case hi196 => (simp only [List.getElem?_toArray, List.getElem?_cons_succ, List.getElem?_cons_zero] <;> exact rfl)
    case hs196 => kernel_rfl
    case hf196 => kernel_rfl
    case hr196 => kernel_rfl
    case hQ196 => exact fun _ _ _ h => h
    case hS196 => assumption
    case hy196 => (refine Or.inl ⟨by rfl, ?_⟩; intro w hSw; (try dsimp only at hSw); obtain ⟨z0, z1⟩ := hSw; go_simp; try with_reducible rfl)
    simp only [Act.put, List.setIfInBounds_toArray, List.set_cons_zero, List.set_cons_succ]
    refine wpAnyH_take (i := 4) (oi := ?oi205) (v := ?val205) ?hi205 ?hs205 ?hf205 ?hr205 ?hQ205 ?hy205 ?hS205 ?hrest205
    case hi205 => (simp only [List.getElem?_toArray, List.getElem?_cons_succ, List.getElem?_cons_zero] <;> exact rfl)
    case hs205 => kernel_rfl
    case hf205 => kernel_rfl
    case hr205 => kernel_rfl
    case hQ205 => exact fun _ _ _ h => h
    case hS205 => assumption
    case hy205 => (refine Or.inl ⟨by rfl, ?_⟩; intro w hSw; (try dsimp only at hSw); obtain ⟨z0, z1⟩ := hSw; go_simp; try with_reducible rfl)
    simp only [Act.put, List.setIfInBounds_toArray, List.set_cons_zero, List.set_cons_succ]
    refine wpAnyH_take (i := 5) (oi := ?oi214) (v := ?val214) ?hi214 ?hs214 ?hf214 ?hr214 ?hQ214 ?hy214 ?hS214 ?hrest214
    case hi214 => (simp only [List.getElem?_toArray, List.getElem?_cons_succ, List.getElem?_cons_zero] <;> exact rfl)
    case hs214 => kernel_rfl
    case hf214 => kernel_rfl
    case hr214 => kernel_rfl
    case hQ214 => exact fun _ _ _ h => h
    case hS214 => assumption
    case hy214 => (refine Or.inl ⟨by rfl, ?_⟩; intro w hSw; (try dsimp only at hSw); obtain ⟨z0, z1⟩ := hSw; go_simp; try with_reducible rfl)
    simp only [Act.put, List.setIfInBounds_toArray, List.set_cons_zero, List.set_cons_succ]
    refine wpAnyH_take (i := 6) (oi := ?oi223) (v := ?val223) ?hi223 ?hs223 ?hf223 ?hr223 ?hQ223 ?hy223 ?hS223 ?hrest223
    case hi223 => (simp only [List.getElem?_toArray, List.getElem?_cons_succ, List.getElem?_cons_zero] <;> exact rfl)
    case hs223 => kernel_rfl
    case hf223 => kernel_rfl
    case hr223 => kernel_rfl
    case hQ223 => exact fun _ _ _ h => h
    case hS223 => assumption
    case hy223 => (refine Or.inl ⟨by rfl, ?_⟩; intro w hSw; (try dsimp only at hSw); obtain ⟨z0, z1⟩ := hSw; go_simp; try with_reducible rfl)
    simp only [Act.put, List.setIfInBounds_toArray, List.set_cons_zero, List.set_cons_succ]
    refine wpAnyH_take (i := 7) (oi := ?oi232) (v := ?val232) ?hi232 ?hs232 ?hf232 ?hr232 ?hQ232 ?hy232 ?hS232 ?hrest232
    case hi232 => (simp only [List.getElem?_toArray, List.getElem?_cons_succ, List.getElem?_cons_zero] <;> exact rfl)
    case hs232 => kernel_rfl
    case hf232 => kernel_rfl
    case hr232 => kernel_rfl
    case hQ232 => exact fun _ _ _ h => h
    case hS232 => assumption
    case hy232 => (refine Or.inl ⟨by rfl, ?_⟩; intro w hSw; (try dsimp only at hSw); obtain ⟨z0, z1⟩ := hSw; go_simp; try with_reducible rfl)
    simp only [Act.put, List.setIfInBounds_toArray, List.set_cons_zero, List.set_cons_succ]
    refine wpAnyH_take (i := 8) (oi := ?oi241) (v := ?val241) ?hi241 ?hs241 ?hf241 ?hr241 ?hQ241 ?hy241 ?hS241 ?hrest241
    case hi241 => (simp only [List.getElem?_toArray, List.getElem?_cons_succ, List.getElem?_cons_zero] <;> exact rfl)
    case hs241 => kernel_rfl
    case hf241 => kernel_rfl
    case hr241 => kernel_rfl
    case hQ241 => exact fun _ _ _ h => h
    case hS241 => assumption
    case hy241 => (refine Or.inl ⟨by rfl, ?_⟩; intro w hSw; (try dsimp only at hSw); obtain ⟨z0, z1⟩ := hSw; go_simp; try with_reducible rfl)
    simp only [Act.put, List.setIfInBounds_toArray, List.set_cons_zero, List.set_cons_succ]
    refine wpAnyH_take (i := 10) (oi := ?oi250) (v := ?val250) ?hi250 ?hs250 ?hf250 ?hr250 ?hQ250 ?hy250 ?hS250 ?hrest250
    case hi250 => (simp only [List.getElem?_toArray, List.getElem?_cons_succ, List.getElem?_cons_zero] <;> exact rfl)
    case hs250 => kernel_rfl
    case hf250 => kernel_rfl
    case hr250 => kernel_rfl
    case hQ250 => exact fun _ _ _ h => h
    case hS250 => assumption
    case hy250 => (refine Or.inl ⟨by rfl, ?_⟩; intro w hSw; (try dsimp only at hSw); obtain ⟨z0, z1⟩ := hSw; go_simp; try with_reducible rfl)
    simp only [Act.put, List.setIfInBounds_toArray, List.set_cons_zero, List.set_cons_succ]
    refine wpAnyH_take (i := 11) (oi := ?oi259) (v := ?val259) ?hi259 ?hs259 ?hf259 ?hr259 ?hQ259 ?hy259 ?hS259 ?hrest259
    case hi259 => (simp only [List.getElem?_toArray, List.getElem?_cons_succ, List.getElem?_cons_zero] <;> exact rfl)
    case hs259 => kernel_rfl
    case hf259 => kernel_rfl
    case hr259 => kernel_rfl
    case hQ259 => exact fun _ _ _ h => h
    case hS259 => assumption
    case hy259 => (refine Or.inl ⟨by rfl, ?_⟩; intro w hSw; (try dsimp only at hSw); obtain ⟨z0, z1⟩ := hSw; go_simp; try with_reducible rfl)
    simp only [Act.put, List.setIfInBounds_toArray, List.set_cons_zero, List.set_cons_succ]
    refine wpAnyH_ready (rs := [9]) (by kernel_rfl) (by simp) ?_
    refine AllReadyH.cons rfl (fun K hK => ?_) AllReadyH.nil
    (go_simp; ((with_reducible refine (implNormal_any l A n c rs u _ (ER.out _ hV0) Hn.out hb Hz.out hs Hsy.out).mono ?_); rintro e y1 ⟨rfl, c1⟩; rw [Hx.out]; have hV1 := hV0.trans (c1.mono hV0.size)))
    refine hK.out _ _ (ES.out _ hV1) (fun hHeld2 => ?_)
    clear hK K hHeld
    have hHeld := hHeld2
    clear hHeld2
    first | simp only [Act.put, List.setIfInBounds_toArray, List.set_cons_zero, List.set_cons_succ] | skip
    refine wpAnyH_ready (rs := [12]) (by kernel_rfl) (by simp) ?_
    refine AllReadyH.cons rfl (fun K hK => ?_) AllReadyH.nil
    (go_simp; ((with_reducible refine (implNormal_any l A n c rs v _ (ER.out _ hV1) Hn.out hb Hz.out hv Hsy.out).mono ?_); rintro e y2 ⟨rfl, c2⟩; rw [Hy.out]; have hV2 := hV1.trans (c2.mono hV1.size)))
    refine hK.out _ _ (ES.out _ hV2) (fun hHeld2 => ?_)
    clear hK K hHeld
    have hHeld := hHeld2
    clear hHeld2
    first | simp only [Act.put, List.setIfInBounds_toArray, List.set_cons_zero, List.set_cons_succ] | skip
    refine wpAnyH_take (i := 13) (oi := ?oi284) (v := ?val284) ?hi284 ?hs284 ?hf284 ?hr284 ?hQ284 ?hy284 ?hS284 ?hrest284
    case hi284 => (simp only [List.getElem?_toArray, List.getElem?_cons_succ, List.getElem?_cons_zero] <;> exact rfl)
    case hs284 => kernel_rfl
    case hf284 => kernel_rfl
    case hr284 => kernel_rfl
    case hQ284 => exact fun _ _ _ h => h
    case hS284 => assumption
    case hy284 => (refine Or.inl ⟨by rfl, ?_⟩; intro w hSw; (try dsimp only at hSw); obtain ⟨z0, z1⟩ := hSw; go_simp; try with_reducible rfl)
    simp only [Act.put, List.setIfInBounds_toArray, List.set_cons_zero, List.set_cons_succ]
    refine wpAnyH_take (i := 14) (oi := ?oi293) (v := ?val293) ?hi293 ?hs293 ?hf293 ?hr293 ?hQ293 ?hy293 ?hS293 ?hrest293
    case hi293 => (simp only [List.getElem?_toArray, List.getElem?_cons_succ, List.getElem?_cons_zero] <;> exact rfl)
    case hs293 => kernel_rfl
    case hf293 => kernel_rfl
    case hr293 => kernel_rfl
    case hQ293 => exact fun _ _ _ h => h
    case hS293 => assumption
    case hy293 => (refine Or.inl ⟨by rfl, ?_⟩; intro w hSw; (try dsimp only at hSw); obtain ⟨z0, z1⟩ := hSw; go_simp; try with_reducible rfl)
    simp only [Act.put, List.setIfInBounds_toArray, List.set_cons_zero, List.set_cons_succ]
    refine wpAnyH_take (i := 15) (oi := ?oi302) (v := ?val302) ?hi302 ?hs302 ?hf302 ?hr302 ?hQ302 ?hy302 ?hS302 ?hrest302
    case hi302 => (simp only [List.getElem?_toArray, List.getElem?_cons_succ, List.getElem?_cons_zero] <;> exact rfl)
    case hs302 => kernel_rfl
    case hf302 => kernel_rfl
    case hr302 => kernel_rfl
    case hQ302 => exact fun _ _ _ h => h
    case hS302 => assumption
    case hy302 => (refine Or.inl ⟨by rfl, ?_⟩; intro w hSw; (try dsimp only at hSw); obtain ⟨z0, z1⟩ := hSw; go_simp; try with_reducible rfl)
    simp only [Act.put, List.setIfInBounds_toArray, List.set_cons_zero, List.set_cons_succ]
    refine wpAnyH_take (i := 16) (oi := ?oi311) (v := undef) ?hi311 ?hs311 ?hf311 ?hr311 ?hQ311 ?hy311 ?hS311 ?hrest311
    case hi311 => (simp only [List.getElem?_toArray, List.getElem?_cons_succ, List.getElem?_cons_zero] <;> exact rfl)
    case hs311 => kernel_rfl
    case hf311 => kernel_rfl
    case hr311 => kernel_rfl
    case hQ311 => exact fun _ _ _ h => h
    case hS311 => assumption
    case hy311 => exact Or.inr ⟨by rfl, rfl⟩
    simp only [Act.put, List.setIfInBounds_toArray, List.set_cons_zero, List.set_cons_succ]
    refine wpAnyH_take (i := 17) (oi := ?oi320) (v := undef) ?hi320 ?hs320 ?hf320 ?hr320 ?hQ320 ?hy320 ?hS320 ?hrest320
    case hi320 => (simp only [List.getElem?_toArray, List.getElem?_cons_succ, List.getElem?_cons_zero] <;> exact rfl)
    case hs320 => kernel_rfl
    case hf320 => kernel_rfl
    case hr320 => kernel_rfl
    case hQ320 => exact fun _ _ _ h => h
    case hS320 => assumption
    case hy320 => exact Or.inr ⟨by rfl, rfl⟩
    simp only [Act.put, List.setIfInBounds_toArray, List.set_cons_zero, List.set_cons_succ]
    refine wpAnyH_take (i := 18) (oi := ?oi329) (v := undef) ?hi329 ?hs329 ?hf329 ?hr329 ?hQ329 ?hy329 ?hS329 ?hrest329
    case hi329 => (simp only [List.getElem?_toArray, List.getElem?_cons_succ, List.getElem?_cons_zero] <;> exact rfl)
    case hs329 => kernel_rfl
    case hf329 => kernel_rfl
    case hr329 => kernel_rfl
    case hQ329 => exact fun _ _ _ h => h
    case hS329 => assumption
    case hy329 => exact Or.inr ⟨by rfl, rfl⟩
    simp only [Act.put, List.setIfInBounds_toArray, List.set_cons_zero, List.set_cons_succ]
    refine wpAnyH_take (i := 19) (oi := ?oi338) (v := undef) ?hi338 ?hs338 ?hf338 ?hr338 ?hQ338 ?hy338 ?hS338 ?hrest338
    case hi338 => (simp only [List.getElem?_toArray, List.getElem?_cons_succ, List.getElem?_cons_zero] <;> exact rfl)
    case hs338 => kernel_rfl
    case hf338 => kernel_rfl
    case hr338 => kernel_rfl
    case hQ338 => exact fun _ _ _ h => h
    case hS338 => assumption
    case hy338 => exact Or.inr ⟨by rfl, rfl⟩
    simp only [Act.put, List.setIfInBounds_toArray, List.set_cons_zero, List.set_cons_succ]
    refine wpAnyH_take (i := 20) (oi := ?oi347) (v := undef) ?hi347 ?hs347 ?hf347 ?hr347 ?hQ347 ?hy347 ?hS347 ?hrest347
    case hi347 => (simp only [List.getElem?_toArray, List.getElem?_cons_succ, List.getElem?_cons_zero] <;> exact rfl)
    case hs347 => kernel_rfl
    case hf347 => kernel_rfl
    case hr347 => kernel_rfl
    case hQ347 => exact fun _ _ _ h => h
    case hS347 => assumption
    case hy347 => exact Or.inr ⟨by rfl, rfl⟩
    simp only [Act.put, List.setIfInBounds_toArray, List.set_cons_zero, List.set_cons_succ]
    refine wpAnyH_take (i := 21) (oi := ?oi356) (v := undef) ?hi356 ?hs356 ?hf356 ?hr356 ?hQ356 ?hy356 ?hS356 ?hrest356
    case hi356 => (simp only [List.getElem?_toArray, List.getElem?_cons_succ, List.getElem?_cons_zero] <;> exact rfl)
    case hs356 => kernel_rfl
    case hf356 => kernel_rfl
    case hr356 => kernel_rfl
    case hQ356 => exact fun _ _ _ h => h
    case hS356 => assumption
    case hy356 => exact Or.inr ⟨by rfl, rfl⟩
    simp only [Act.put, List.setIfInBounds_toArray, List.set_cons_zero, List.set_cons_succ]
    refine wpAnyH_take (i := 22) (oi := ?oi365) (v := ?val365) ?hi365 ?hs365 ?hf365 ?hr365 ?hQ365 ?hy365 ?hS365 ?hrest365
    case hi365 => (simp only [List.getElem?_toArray, List.getElem?_cons_succ, List.getElem?_cons_zero] <;> exact rfl)
    case hs365 => kernel_rfl
    case hf365 => kernel_rfl
    case hr365 => kernel_rfl
    case hQ365 => exact fun _ _ _ h => h
    case hS365 => assumption
    case hy365 => (refine Or.inl ⟨by rfl, ?_⟩; intro w hSw; (try dsimp only at hSw); obtain ⟨z0, z1⟩ := hSw; go_simp; try with_reducible rfl)
    simp only [Act.put, List.setIfInBounds_toArray, List.set_cons_zero, List.set_cons_succ]
    refine wpAnyH_done (by kernel_rfl) ?_ _
    go_wp2_with fail
    go_ret2
    rw [E0.out, E1.out]
    exact ⟨none, 0, rfl, World.ownsRow_nil _ _ _ _, hW2.trans (hV2.mono hW2.size)⟩
  · by_cases h200 : m1 + m2 ≤ 200
    rotate_left
    · have e0 : pfOk l rs u v = false := by rw [Hpo.out, hq, decide_eq_false h200]; rfl
      have e1 : pfL l rs u v = [] := by rw [pfL, e0]; rfl
      have h200' : (200 : Int) < (m1 : Int) + (m2 : Int) := by omega
      have E0 := Lib.hid e0
      clear e0
      have E1 := Lib.hid e1
      clear e1
      go_wp2_with fail
      refine wp_region_held_drew (S := (fun W => W.cell? ⟨w.heap.size, 0, none⟩ = some (.int .i64 l) ∧ W.cell? ⟨w.heap.size, 1, none⟩ = some (.slice A n c))) (by kernel_rfl) (ZS.out) (fun hHeld => ?_)
      refine wpAnyH_take (i := 0) (oi := ?oi390) (v := ?val390) ?hi390 ?hs390 ?hf390 ?hr390 ?hQ390 ?hy390 ?hS390 ?hrest390
      case hi390 => (simp only [List.getElem?_toArray, List.getElem?_cons_succ, List.getElem?_cons_zero] <;> exact rfl)
      case hs390 => kernel_rfl
      case hf390 => kernel_rfl
      case hr390 => kernel_rfl
      case hQ390 => exact fun _ _ _ h => h
      case hS390 => assumption
      case hy390 => (refine Or.inl ⟨by rfl, ?_⟩; intro w hSw; (try dsimp only at hSw); obtain ⟨z0, z1⟩ := hSw; go_simp; try with_reducible rfl)
      simp only [Act.put, List.setIfInBounds_toArray, List.set_cons_zero, List.set_cons_succ]
      refine wpAnyH_take (i := 1) (oi := ?oi399) (v := ?val399) ?hi399 ?hs399 ?hf399 ?hr399 ?hQ399 ?hy399 ?hS399 ?hrest399
      case hi399 => (simp only [List.getElem?_toArray, List.getElem?_cons_succ, List.getElem?_cons_zero] <;> exact rfl)
      case hs399 => kernel_rfl
      case hf399 => kernel_rfl
      case hr399 => kernel_rfl
      case hQ399 => exact fun _ _ _ h => h
      case hS399 => assumption
      case hy399 => (refine Or.inl ⟨by rfl, ?_⟩; intro w hSw; (try dsimp only at hSw); obtain ⟨z0, z1⟩ := hSw; go_simp; try with_reducible rfl)
      simp only [Act.put, List.setIfInBounds_toArray, List.set_cons_zero, List.set_cons_succ]
      refine wpAnyH_take (i := 2) (oi := ?oi408) (v := ?val408) ?hi408 ?hs408 ?hf408 ?hr408 ?hQ408 ?hy408 ?hS408 ?hrest408
      case hi408 => (simp only [List.getElem?_toArray, List.getElem?_cons_succ, List.getElem?_cons_zero] <;> exact rfl)
      case hs408 => kernel_rfl
      case hf408 => kernel_rfl
      case hr408 => kernel_rfl
      case hQ408 => exact fun _ _ _ h => h
      case hS408 => assumption
      case hy408 => (refine Or.inl ⟨by rfl, ?_⟩; intro w hSw; (try dsimp only at hSw); obtain ⟨z0, z1⟩ := hSw; go_simp; try with_reducible rfl)
      simp only [Act.put, List.setIfInBounds_toArray, List.set_cons_zero, List.set_cons_succ]
      refine wpAnyH_take (i := 3) (oi := ?oi417) (v := ?val417) ?hi417 ?hs417 ?hf417 ?hr417 ?hQ417 ?hy417 ?hS417 ?hrest417
      case hi417 => (simp only [List.getElem?_toArray, List.getElem?_cons_succ, List.getElem?_cons_zero] <;> exact rfl)
      case hs417 => kernel_rfl
      case hf417 => kernel_rfl
      case hr417 => kernel_rfl
      case hQ417 => exact fun _ _ _ h => h
      case hS417 => assumption
      case hy417 => (refine Or.inl ⟨by rfl, ?_⟩; intro w hSw; (try dsimp only at hSw); obtain ⟨z0, z1⟩ := hSw; go_simp; try with_reducible rfl)
      simp only [Act.put, List.setIfInBounds_toArray, List.set_cons_zero, List.set_cons_succ]
      refine wpAnyH_take (i := 4) (oi := ?oi426) (v := ?val426) ?hi426 ?hs426 ?hf426 ?hr426 ?hQ426 ?hy426 ?hS426 ?hrest426
      case hi426 => (simp only [List.getElem?_toArray, List.getElem?_cons_succ, List.getElem?_cons_zero] <;> exact rfl)
      case hs426 => kernel_rfl
      case hf426 => kernel_rfl
      case hr426 => kernel_rfl
      case hQ426 => exact fun _ _ _ h => h
      case hS426 => assumption
      case hy426 => (refine Or.inl ⟨by rfl, ?_⟩; intro w hSw; (try dsimp only at hSw); obtain ⟨z0, z1⟩ := hSw; go_simp; try with_reducible rfl)
      simp only [Act.put, List.setIfInBounds_toArray, List.set_cons_zero, List.set_cons_succ]
      refine wpAnyH_take (i := 5) (oi := ?oi435) (v := ?val435) ?hi435 ?hs435 ?hf435 ?hr435 ?hQ435 ?hy435 ?hS435 ?hrest435
      case hi435 => (simp only [List.getElem?_toArray, List.getElem?_cons_succ, List.getElem?_cons_zero] <;> exact rfl)
      case hs435 => kernel_rfl
      case hf435 => kernel_rfl
      case hr435 => kernel_rfl
      case hQ435 => exact fun _ _ _ h => h
      case hS435 => assumption
      case hy435 => (refine Or.inl ⟨by rfl, ?_⟩; intro w hSw; (try dsimp only at hSw); obtain ⟨z0, z1⟩ := hSw; go_simp; try with_reducible rfl)
      simp only [Act.put, List.setIfInBounds_toArray, List.set_cons_zero, List.set_cons_succ]
      refine wpAnyH_take (i := 6) (oi := ?oi444) (v := ?val444) ?hi444 ?hs444 ?hf444 ?hr444 ?hQ444 ?hy444 ?hS444 ?hrest444
      case hi444 => (simp only [List.getElem?_toArray, List.getElem?_cons_succ, List.getElem?_cons_zero] <;> exact rfl)
      case hs444 => kernel_rfl
      case hf444 => kernel_rfl
      case hr444 => kernel_rfl
      case hQ444 => exact fun _ _ _ h => h
      case hS444 => assumption
      case hy444 => (refine Or.inl ⟨by rfl, ?_⟩; intro w hSw; (try dsimp only at hSw); obtain ⟨z0, z1⟩ := hSw; go_simp; try with_reducible rfl)
      simp only [Act.put, List.setIfInBounds_toArray, List.set_cons_zero, List.set_cons_succ]
      refine wpAnyH_take (i := 7) (oi := ?oi453) (v := ?val453) ?hi453 ?hs453 ?hf453 ?hr453 ?hQ453 ?hy453 ?hS453 ?hrest453
      case hi453 => (simp only [List.getElem?_toArray, List.getElem?_cons_succ, List.getElem?_cons_zero] <;> exact rfl)
      case hs453 => kernel_rfl
      case hf453 => kernel_rfl
      case hr453 => kernel_rfl
      case hQ453 => exact fun _ _ _ h => h
      case hS453 => assumption
      case hy453 => (refine Or.inl ⟨by rfl, ?_⟩; intro w hSw; (try dsimp only at hSw); obtain ⟨z0, z1⟩ := hSw; go_simp; try with_reducible rfl)
      simp only [Act.put, List.setIfInBounds_toArray, List.set_cons_zero, List.set_cons_succ]
      refine wpAnyH_take (i := 8) (oi := ?oi462) (v := ?val462) ?hi462 ?hs462 ?hf462 ?hr462 ?hQ462 ?hy462 ?hS462 ?hrest462
      case hi462 => (simp only [List.getElem?_toArray, List.getElem?_cons_succ, List.getElem?_cons_zero] <;> exact rfl)
      case hs462 => kernel_rfl
      case hf462 => kernel_rfl
      case hr462 => kernel_rfl
      case hQ462 => exact fun _ _ _ h => h
      case hS462 => assumption
      case hy462 => (refine Or.inl ⟨by rfl, ?_⟩; intro w hSw; (try dsimp only at hSw); obtain ⟨z0, z1⟩ := hSw; go_simp; try with_reducible rfl)
      simp only [Act.put, List.setIfInBounds_toArray, List.set_cons_zero, List.set_cons_succ]
      refine wpAnyH_take (i := 10) (oi := ?oi471) (v := ?val471) ?hi471 ?hs471 ?hf471 ?hr471 ?hQ471 ?hy471 ?hS471 ?hrest471
      case hi471 => (simp only [List.getElem?_toArray, List.getElem?_cons_succ, List.getElem?_cons_zero] <;> exact rfl)
      case hs471 => kernel_rfl
      case hf471 => kernel_rfl
      case hr471 => kernel_rfl
      case hQ471 => exact fun _ _ _ h => h
      case hS471 => assumption
      case hy471 => (refine Or.inl ⟨by rfl, ?_⟩; intro w hSw; (try dsimp only at hSw); obtain ⟨z0, z1⟩ := hSw; go_simp; try with_reducible rfl)
      simp only [Act.put, List.setIfInBounds_toArray, List.set_cons_zero, List.set_cons_succ]
      refine wpAnyH_take (i := 11) (oi := ?oi480) (v := ?val480) ?hi480 ?hs480 ?hf480 ?hr480 ?hQ480 ?hy480 ?hS480 ?hrest480
      case hi480 => (simp only [List.getElem?_toArray, List.getElem?_cons_succ, List.getElem?_cons_zero] <;> exact rfl)
      case hs480 => kernel_rfl
      case hf480 => kernel_rfl
      case hr480 => kernel_rfl
      case hQ480 => exact fun _ _ _ h => h
      case hS480 => assumption
      case hy480 => (refine Or.inl ⟨by rfl, ?_⟩; intro w hSw; (try dsimp only at hSw); obtain ⟨z0, z1⟩ := hSw; go_simp; try with_reducible rfl)
      simp only [Act.put, List.setIfInBounds_toArray, List.set_cons_zero, List.set_cons_succ]
      refine wpAnyH_ready (rs := [9]) (by kernel_rfl) (by simp) ?_
      refine AllReadyH.cons rfl (fun K hK => ?_) AllReadyH.nil
      (go_simp; ((with_reducible refine (implNormal_any l A n c rs u _ (ER.out _ hV0) Hn.out hb Hz.out hs Hsy.out).mono ?_); rintro e y1 ⟨rfl, c1⟩; rw [Hx.out]; have hV1 := hV0.trans (c1.mono hV0.size)))
      refine hK.out _ _ (ES.out _ hV1) (fun hHeld2 => ?_)
      clear hK K hHeld
      have hHeld := hHeld2
      clear hHeld2
      first | simp only [Act.put, List.setIfInBounds_toArray, List.set_cons_zero, List.set_cons_succ] | skip
      refine wpAnyH_ready (rs := [12]) (by kernel_rfl) (by simp) ?_
      refine AllReadyH.cons rfl (fun K hK => ?_) AllReadyH.nil
      (go_simp; ((with_reducible refine (implNormal_any l A n c rs v _ (ER.out _ hV1) Hn.out hb Hz.out hv Hsy.out).mono ?_); rintro e y2 ⟨rfl, c2⟩; rw [Hy.out]; have hV2 := hV1.trans (c2.mono hV1.size)))
      refine hK.out _ _ (ES.out _ hV2) (fun hHeld2 => ?_)
      clear hK K hHeld
      have hHeld := hHeld2
      clear hHeld2
      first | simp only [Act.put, List.setIfInBounds_toArray, List.set_cons_zero, List.set_cons_succ] | skip
      refine wpAnyH_take (i := 13) (oi := ?oi505) (v := ?val505) ?hi505 ?hs505 ?hf505 ?hr505 ?hQ505 ?hy505 ?hS505 ?hrest505
      case hi505 => (simp only [List.getElem?_toArray, List.getElem?_cons_succ, List.getElem?_cons_zero] <;> exact rfl)
      case hs505 => kernel_rfl
      case hf505 => kernel_rfl
      case hr505 => kernel_rfl
      case hQ505 => exact fun _ _ _ h => h
      case hS505 => assumption
      case hy505 => (refine Or.inl ⟨by rfl, ?_⟩; intro w hSw; (try dsimp only at hSw); obtain ⟨z0, z1⟩ := hSw; go_simp; try with_reducible rfl)
      simp only [Act.put, List.setIfInBounds_toArray, List.set_cons_zero, List.set_cons_succ]
      refine wpAnyH_take (i := 14) (oi := ?oi514) (v := ?val514) ?hi514 ?hs514 ?hf514 ?hr514 ?hQ514 ?hy514 ?hS514 ?hrest514
      case hi514 => (simp only [List.getElem?_toArray, List.getElem?_cons_succ, List.getElem?_cons_zero] <;> exact rfl)
      case hs514 => kernel_rfl
      case hf514 => kernel_rfl
      case hr514 => kernel_rfl
      case hQ514 => exact fun _ _ _ h => h
      case hS514 => assumption
      case hy514 => (refine Or.inl ⟨by rfl, ?_⟩; intro w hSw; (try dsimp only at hSw); obtain ⟨z0, z1⟩ := hSw; go_simp; try with_reducible rfl)
      simp only [Act.put, List.setIfInBounds_toArray, List.set_cons_zero, List.set_cons_succ]
      refine wpAnyH_take (i := 15) (oi := ?oi523) (v := ?val523) ?hi523 ?hs523 ?hf523 ?hr523 ?hQ523 ?hy523 ?hS523 ?hrest523
      case hi523 => (simp only [List.getElem?_toArray, List.getElem?_cons_succ, List.getElem?_cons_zero] <;> exact rfl)
      case hs523 => kernel_rfl
      case hf523 => kernel_rfl
      case hr523 => kernel_rfl
      case hQ523 => exact fun _ _ _ h => h
      case hS523 => assumption
      case hy523 => (refine Or.inl ⟨by rfl, ?_⟩; intro w hSw; (try dsimp only at hSw); obtain ⟨z0, z1⟩ := hSw; go_simp; try with_reducible rfl)
      simp only [Act.put, List.setIfInBounds_toArray, List.set_cons_zero, List.set_cons_succ]
      refine wpAnyH_take (i := 16) (oi := ?oi532) (v := ?val532) ?hi532 ?hs532 ?hf532 ?hr532 ?hQ532 ?hy532 ?hS532 ?hrest532
      case hi532 => (simp only [List.getElem?_toArray, List.getElem?_cons_succ, List.getElem?_cons_zero] <;> exact rfl)
      case hs532 => kernel_rfl
      case hf532 => kernel_rfl
      case hr532 => kernel_rfl
      case hQ532 => exact fun _ _ _ h => h
      case hS532 => assumption
      case hy532 => (refine Or.inl ⟨by rfl, ?_⟩; intro w hSw; (try dsimp only at hSw); obtain ⟨z0, z1⟩ := hSw; go_simp; try with_reducible rfl)
      simp only [Act.put, List.setIfInBounds_toArray, List.set_cons_zero, List.set_cons_succ]
      refine wpAnyH_take (i := 17) (oi := ?oi541) (v := ?val541) ?hi541 ?hs541 ?hf541 ?hr541 ?hQ541 ?hy541 ?hS541 ?hrest541
      case hi541 => (simp only [List.getElem?_toArray, List.getElem?_cons_succ, List.getElem?_cons_zero] <;> exact rfl)
      case hs541 => kernel_rfl
      case hf541 => kernel_rfl
      case hr541 => kernel_rfl
      case hQ541 => exact fun _ _ _ h => h
      case hS541 => assumption
      case hy541 => (refine Or.inl ⟨by rfl, ?_⟩; intro w hSw; (try dsimp only at hSw); obtain ⟨z0, z1⟩ := hSw; go_simp; try with_reducible rfl)
      simp only [Act.put, List.setIfInBounds_toArray, List.set_cons_zero, List.set_cons_succ]
      refine wpAnyH_take (i := 18) (oi := ?oi550) (v := ?val550) ?hi550 ?hs550 ?hf550 ?hr550 ?hQ550 ?hy550 ?hS550 ?hrest550
      case hi550 => (simp only [List.getElem?_toArray, List.getElem?_cons_succ, List.getElem?_cons_zero] <;> exact rfl)
      case hs550 => kernel_rfl
      case hf550 => kernel_rfl
      case hr550 => kernel_rfl
      case hQ550 => exact fun _ _ _ h => h
      case hS550 => assumption
      case hy550 => (refine Or.inl ⟨by rfl, ?_⟩; intro w hSw; (try dsimp only at hSw); obtain ⟨z0, z1⟩ := hSw; go_simp; try with_reducible rfl)
      simp only [Act.put, List.setIfInBounds_toArray, List.set_cons_zero, List.set_cons_succ]
      refine wpAnyH_take (i := 19) (oi := ?oi559) (v := ?val559) ?hi559 ?hs559 ?hf559 ?hr559 ?hQ559 ?hy559 ?hS559 ?hrest559
      case hi559 => (simp only [List.getElem?_toArray, List.getElem?_cons_succ, List.getElem?_cons_zero] <;> exact rfl)
      case hs559 => kernel_rfl
      case hf559 => kernel_rfl
      case hr559 => kernel_rfl
      case hQ559 => exact fun _ _ _ h => h
      case hS559 => assumption
      case hy559 => (refine Or.inl ⟨by rfl, ?_⟩; intro w hSw; (try dsimp only at hSw); obtain ⟨z0, z1⟩ := hSw; go_simp; try with_reducible rfl)
      simp only [Act.put, List.setIfInBounds_toArray, List.set_cons_zero, List.set_cons_succ]
      refine wpAnyH_take (i := 20) (oi := ?oi568) (v := ?val568) ?hi568 ?hs568 ?hf568 ?hr568 ?hQ568 ?hy568 ?hS568 ?hrest568
      case hi568 => (simp only [List.getElem?_toArray, List.getElem?_cons_succ, List.getElem?_cons_zero] <;> exact rfl)
      case hs568 => kernel_rfl
      case hf568 => kernel_rfl
      case hr568 => kernel_rfl
      case hQ568 => exact fun _ _ _ h => h
      case hS568 => assumption
      case hy568 => (refine Or.inl ⟨by rfl, ?_⟩; intro w hSw; (try dsimp only at hSw); obtain ⟨z0, z1⟩ := hSw; go_simp; try with_reducible rfl)
      simp only [Act.put, List.setIfInBounds_toArray, List.set_cons_zero, List.set_cons_succ]
      refine wpAnyH_take (i := 21) (oi := ?oi577) (v := ?val577) ?hi577 ?hs577 ?hf577 ?hr577 ?hQ577 ?hy577 ?hS577 ?hrest577
      case hi577 => (simp only [List.getElem?_toArray, List.getElem?_cons_succ, List.getElem?_cons_zero] <;> exact rfl)
      case hs577 => kernel_rfl
      case hf577 => kernel_rfl
      case hr577 => kernel_rfl
      case hQ577 => exact fun _ _ _ h => h
      case hS577 => assumption
      case hy577 => (refine Or.inl ⟨by rfl, ?_⟩; intro w hSw; (try dsimp only at hSw); obtain ⟨z0, z1⟩ := hSw; go_simp; try with_reducible rfl)
      simp only [Act.put, List.setIfInBounds_toArray, List.set_cons_zero, List.set_cons_succ]
      refine wpAnyH_take (i := 22) (oi := ?oi586) (v := ?val586) ?hi586 ?hs586 ?hf586 ?hr586 ?hQ586 ?hy586 ?hS586 ?hrest586
      case hi586 => (simp only [List.getElem?_toArray, List.getElem?_cons_succ, List.getElem?_cons_zero] <;> exact rfl)
      case hs586 => kernel_rfl
      case hf586 => kernel_rfl
      case hr586 => kernel_rfl
      case hQ586 => exact fun _ _ _ h => h
      case hS586 => assumption
      case hy586 => (refine Or.inl ⟨by rfl, ?_⟩; intro w hSw; (try dsimp only at hSw); obtain ⟨z0, z1⟩ := hSw; go_simp; try with_reducible rfl)
      simp only [Act.put, List.setIfInBounds_toArray, List.set_cons_zero, List.set_cons_succ]
      refine wpAnyH_done (by kernel_rfl) ?_ _
      go_wp2_with fail
      go_ret2
      rw [E0.out, E1.out]
      exact ⟨none, 0, rfl, World.ownsRow_nil _ _ _ _, hW2.trans (hV2.mono hW2.size)⟩
    · have e0 : pfOk l rs u v = true := by rw [Hpo.out, hq, decide_eq_true h200]; rfl
      have e1 : pfL l rs u v = X.map (linkOf false) ++ Y.reverse.map (linkOf true) := by rw [pfL, e0, HX.out, HY.out]; rfl
      have h200' : ¬ (200 : Int) < (m1 : Int) + (m2 : Int) := by omega
      have E0 := Lib.hid e0
      clear e0
      have E1 := Lib.hid e1
      clear e1
      go_wp2_with fail
      refine wp_region_held_drew (S := (fun W => W.cell? ⟨w.heap.size, 0, none⟩ = some (.int .i64 l) ∧ W.cell? ⟨w.heap.size, 1, none⟩ = some (.slice A n c))) (by kernel_rfl) (ZS.out) (fun hHeld => ?_)
      refine wpAnyH_take (i := 0) (oi := ?oi609) (v := ?val609) ?hi609 ?hs609 ?hf609 ?hr609 ?hQ609 ?hy609 ?hS609 ?hrest609
      case hi609 => (simp only [List.getElem?_toArray, List.getElem?_cons_succ, List.getElem?_cons_zero] <;> exact rfl)
      case hs609 => kernel_rfl
      case hf609 => kernel_rfl
      case hr609 => kernel_rfl
      case hQ609 => exact fun _ _ _ h => h
      case hS609 => assumption
      case hy609 => (refine Or.inl ⟨by rfl, ?_⟩; intro w hSw; (try dsimp only at hSw); obtain ⟨z0, z1⟩ := hSw; go_simp; try with_reducible rfl)
      simp only [Act.put, List.setIfInBounds_toArray, List.set_cons_zero, List.set_cons_succ]
      refine wpAnyH_take (i := 1) (oi := ?oi618) (v := ?val618) ?hi618 ?hs618 ?hf618 ?hr618 ?hQ618 ?hy618 ?hS618 ?hrest618
      case hi618 => (simp only [List.getElem?_toArray, List.getElem?_cons_succ, List.getElem?_cons_zero] <;> exact rfl)
      case hs618 => kernel_rfl
      case hf618 => kernel_rfl
      case hr618 => kernel_rfl
      case hQ618 => exact fun _ _ _ h => h
      case hS618 => assumption
      case hy618 => (refine Or.inl ⟨by rfl, ?_⟩; intro w hSw; (try dsimp only at hSw); obtain ⟨z0, z1⟩ := hSw; go_simp; try with_reducible rfl)
      simp only [Act.put, List.setIfInBounds_toArray, List.set_cons_zero, List.set_cons_succ]
      refine wpAnyH_take (i := 2) (oi := ?oi627) (v := ?val627) ?hi627 ?hs627 ?hf627 ?hr627 ?hQ627 ?hy627 ?hS627 ?hrest627
      case hi627 => (simp only [List.getElem?_toArray, List.getElem?_cons_succ, List.getElem?_cons_zero] <;> exact rfl)
      case hs627 => kernel_rfl
      case hf627 => kernel_rfl
      case hr627 => kernel_rfl
      case hQ627 => exact fun _ _ _ h => h
      case hS627 => assumption
      case hy627 => (refine Or.inl ⟨by rfl, ?_⟩; intro w hSw; (try dsimp only at hSw); obtain ⟨z0, z1⟩ := hSw; go_simp; try with_reducible rfl)
      simp only [Act.put, List.setIfInBounds_toArray, List.set_cons_zero, List.set_cons_succ]
      refine wpAnyH_take (i := 3) (oi := ?oi636) (v := ?val636) ?hi636 ?hs636 ?hf636 ?hr636 ?hQ636 ?hy636 ?hS636 ?hrest636
      case hi636 => (simp only [List.getElem?_toArray, List.getElem?_cons_succ, List.getElem?_cons_zero] <;> exact rfl)
      case hs636 => kernel_rfl
      case hf636 => kernel_rfl
      case hr636 => kernel_rfl
      case hQ636 => exact fun _ _ _ h => h
      case hS636 => assumption
      case hy636 => (refine Or.inl ⟨by rfl, ?_⟩; intro w hSw; (try dsimp only at hSw); obtain ⟨z0, z1⟩ := hSw; go_simp; try with_reducible rfl)
      simp only [Act.put, List.setIfInBounds_toArray, List.set_cons_zero, List.set_cons_succ]
      refine wpAnyH_take (i := 4) (oi := ?oi645) (v := ?val645) ?hi645 ?hs645 ?hf645 ?hr645 ?hQ645 ?hy645 ?hS645 ?hrest645
      case hi645 => (simp only [List.getElem?_toArray, List.getElem?_cons_succ, List.getElem?_cons_zero] <;> exact rfl)
      case hs645 => kernel_rfl
      case hf645 => kernel_rfl
      case hr645 => kernel_rfl
      case hQ645 => exact fun _ _ _ h => h
      case hS645 => assumption
      case hy645 => (refine Or.inl ⟨by rfl, ?_⟩; intro w hSw; (try dsimp only at hSw); obtain ⟨z0, z1⟩ := hSw; go_simp; try with_reducible rfl)
      simp only [Act.put, List.setIfInBounds_toArray, List.set_cons_zero, List.set_cons_succ]
      refine wpAnyH_take (i := 5) (oi := ?oi654) (v := ?val654) ?hi654 ?hs654 ?hf654 ?hr654 ?hQ654 ?hy654 ?hS654 ?hrest654
      case hi654 => (simp only [List.getElem?_toArray, List.getElem?_cons_succ, List.getElem?_cons_zero] <;> exact rfl)
      case hs654 => kernel_rfl
      case hf654 => kernel_rfl
      case hr654 => kernel_rfl
      case hQ654 => exact fun _ _ _ h => h
      case hS654 => assumption
      case hy654 => (refine Or.inl ⟨by rfl, ?_⟩; intro w hSw; (try dsimp only at hSw); obtain ⟨z0, z1⟩ := hSw; go_simp; try with_reducible rfl)
      simp only [Act.put, List.setIfInBounds_toArray, List.set_cons_zero, List.set_cons_succ]
      refine wpAnyH_take (i := 6) (oi := ?oi663) (v := ?val663) ?hi663 ?hs663 ?hf663 ?hr663 ?hQ663 ?hy663 ?hS663 ?hrest663
      case hi663 => (simp only [List.getElem?_toArray, List.getElem?_cons_succ, List.getElem?_cons_zero] <;> exact rfl)
      case hs663 => kernel_rfl
      case hf663 => kernel_rfl
      case hr663 => kernel_rfl
      case hQ663 => exact fun _ _ _ h => h
      case hS663 => assumption
      case hy663 => (refine Or.inl ⟨by rfl, ?_⟩; intro w hSw; (try dsimp only at hSw); obtain ⟨z0, z1⟩ := hSw; go_simp; try with_reducible rfl)
      simp only [Act.put, List.setIfInBounds_toArray, List.set_cons_zero, List.set_cons_succ]
      refine wpAnyH_take (i := 7) (oi := ?oi672) (v := ?val672) ?hi672 ?hs672 ?hf672 ?hr672 ?hQ672 ?hy672 ?hS672 ?hrest672
      case hi672 => (simp only [List.getElem?_toArray, List.getElem?_cons_succ, List.getElem?_cons_zero] <;> exact rfl)
      case hs672 => kernel_rfl
      case hf672 => kernel_rfl
      case hr672 => kernel_rfl
      case hQ672 => exact fun _ _ _ h => h
      case hS672 => assumption
      case hy672 => (refine Or.inl ⟨by rfl, ?_⟩; intro w hSw; (try dsimp only at hSw); obtain ⟨z0, z1⟩ := hSw; go_simp; try with_reducible rfl)
      simp only [Act.put, List.setIfInBounds_toArray, List.set_cons_zero, List.set_cons_succ]
      refine wpAnyH_take (i := 8) (oi := ?oi681) (v := ?val681) ?hi681 ?hs681 ?hf681 ?hr681 ?hQ681 ?hy681 ?hS681 ?hrest681
      case hi681 => (simp only [List.getElem?_toArray, List.getElem?_cons_succ, List.getElem?_cons_zero] <;> exact rfl)
      case hs681 => kernel_rfl
      case hf681 => kernel_rfl
      case hr681 => kernel_rfl
      case hQ681 => exact fun _ _ _ h => h
      case hS681 => assumption
      case hy681 => (refine Or.inl ⟨by rfl, ?_⟩; intro w hSw; (try dsimp only at hSw); obtain ⟨z0, z1⟩ := hSw; go_simp; try with_reducible rfl)
      simp only [Act.put, List.setIfInBounds_toArray, List.set_cons_zero, List.set_cons_succ]
      refine wpAnyH_take (i := 10) (oi := ?oi690) (v := ?val690) ?hi690 ?hs690 ?hf690 ?hr690 ?hQ690 ?hy690 ?hS690 ?hrest690
      case hi690 => (simp only [List.getElem?_toArray, List.getElem?_cons_succ, List.getElem?_cons_zero] <;> exact rfl)
      case hs690 => kernel_rfl
      case hf690 => kernel_rfl
      case hr690 => kernel_rfl
      case hQ690 => exact fun _ _ _ h => h
      case hS690 => assumption
      case hy690 => (refine Or.inl ⟨by rfl, ?_⟩; intro w hSw; (try dsimp only at hSw); obtain ⟨z0, z1⟩ := hSw; go_simp; try with_reducible rfl)
      simp only [Act.put, List.setIfInBounds_toArray, List.set_cons_zero, List.set_cons_succ]
      refine wpAnyH_take (i := 11) (oi := ?oi699) (v := ?val699) ?hi699 ?hs699 ?hf699 ?hr699 ?hQ699 ?hy699 ?hS699 ?hrest699
      case hi699 => (simp only [List.getElem?_toArray, List.getElem?_cons_succ, List.getElem?_cons_zero] <;> exact rfl)
      case hs699 => kernel_rfl
      case hf699 => kernel_rfl
      case hr699 => kernel_rfl
      case hQ699 => exact fun _ _ _ h => h
      case hS699 => assumption
      case hy699 => (refine Or.inl ⟨by rfl, ?_⟩; intro w hSw; (try dsimp only at hSw); obtain ⟨z0, z1⟩ := hSw; go_simp; try with_reducible rfl)
      simp only [Act.put, List.setIfInBounds_toArray, List.set_cons_zero, List.set_cons_succ]
      refine wpAnyH_ready (rs := [9]) (by kernel_rfl) (by simp) ?_
      refine AllReadyH.cons rfl (fun K hK => ?_) AllReadyH.nil
      (go_simp; ((with_reducible refine (implNormal_any l A n c rs u _ (ER.out _ hV0) Hn.out hb Hz.out hs Hsy.out).mono ?_); rintro e y1 ⟨rfl, c1⟩; rw [Hx.out]; have hV1 := hV0.trans (c1.mono hV0.size)))
      refine hK.out _ _ (ES.out _ hV1) (fun hHeld2 => ?_)
      clear hK K hHeld
      have hHeld := hHeld2
      clear hHeld2
      first | simp only [Act.put, List.setIfInBounds_toArray, List.set_cons_zero, List.set_cons_succ] | skip
      refine wpAnyH_ready (rs := [12]) (by kernel_rfl) (by simp) ?_
      refine AllReadyH.cons rfl (fun K hK => ?_) AllReadyH.nil
      (go_simp; ((with_reducible refine (implNormal_any l A n c rs v _ (ER.out _ hV1) Hn.out hb Hz.out hv Hsy.out).mono ?_); rintro e y2 ⟨rfl, c2⟩; rw [Hy.out]; have hV2 := hV1.trans (c2.mono hV1.size)))
      refine hK.out _ _ (ES.out _ hV2) (fun hHeld2 => ?_)
      clear hK K hHeld
      have hHeld := hHeld2
      clear hHeld2
      first | simp only [Act.put, List.setIfInBounds_toArray, List.set_cons_zero, List.set_cons_succ] | skip
      refine wpAnyH_take (i := 13) (oi := ?oi724) (v := ?val724) ?hi724 ?hs724 ?hf724 ?hr724 ?hQ724 ?hy724 ?hS724 ?hrest724
      case hi724 => (simp only [List.getElem?_toArray, List.getElem?_cons_succ, List.getElem?_cons_zero] <;> exact rfl)
      case hs724 => kernel_rfl
      case hf724 => kernel_rfl
      case hr724 => kernel_rfl
      case hQ724 => exact fun _ _ _ h => h
      case hS724 => assumption
      case hy724 => (refine Or.inl ⟨by rfl, ?_⟩; intro w hSw; (try dsimp only at hSw); obtain ⟨z0, z1⟩ := hSw; go_simp; try with_reducible rfl)
      simp only [Act.put, List.setIfInBounds_toArray, List.set_cons_zero, List.set_cons_succ]
      refine wpAnyH_take (i := 14) (oi := ?oi733) (v := ?val733) ?hi733 ?hs733 ?hf733 ?hr733 ?hQ733 ?hy733 ?hS733 ?hrest733
      case hi733 => (simp only [List.getElem?_toArray, List.getElem?_cons_succ, List.getElem?_cons_zero] <;> exact rfl)
      case hs733 => kernel_rfl
      case hf733 => kernel_rfl
      case hr733 => kernel_rfl
      case hQ733 => exact fun _ _ _ h => h
      case hS733 => assumption
      case hy733 => (refine Or.inl ⟨by rfl, ?_⟩; intro w hSw; (try dsimp only at hSw); obtain ⟨z0, z1⟩ := hSw; go_simp; try with_reducible rfl)
      simp only [Act.put, List.setIfInBounds_toArray, List.set_cons_zero, List.set_cons_succ]
      refine wpAnyH_take (i := 15) (oi := ?oi742) (v := ?val742) ?hi742 ?hs742 ?hf742 ?hr742 ?hQ742 ?hy742 ?hS742 ?hrest742
      case hi742 => (simp only [List.getElem?_toArray, List.getElem?_cons_succ, List.getElem?_cons_zero] <;> exact rfl)
      case hs742 => kernel_rfl
      case hf742 => kernel_rfl
      case hr742 => kernel_rfl
      case hQ742 => exact fun _ _ _ h => h
      case hS742 => assumption
      case hy742 => (refine Or.inl ⟨by rfl, ?_⟩; intro w hSw; (try dsimp only at hSw); obtain ⟨z0, z1⟩ := hSw; go_simp; try with_reducible rfl)
      simp only [Act.put, List.setIfInBounds_toArray, List.set_cons_zero, List.set_cons_succ]
      refine wpAnyH_take (i := 16) (oi := ?oi751) (v := ?val751) ?hi751 ?hs751 ?hf751 ?hr751 ?hQ751 ?hy751 ?hS751 ?hrest751
      case hi751 => (simp only [List.getElem?_toArray, List.getElem?_cons_succ, List.getElem?_cons_zero] <;> exact rfl)
      case hs751 => kernel_rfl
      case hf751 => kernel_rfl
      case hr751 => kernel_rfl
      case hQ751 => exact fun _ _ _ h => h
      case hS751 => assumption
      case hy751 => (refine Or.inl ⟨by rfl, ?_⟩; intro w hSw; (try dsimp only at hSw); obtain ⟨z0, z1⟩ := hSw; go_simp; try with_reducible rfl)
      simp only [Act.put, List.setIfInBounds_toArray, List.set_cons_zero, List.set_cons_succ]
      refine wpAnyH_take (i := 17) (oi := ?oi760) (v := ?val760) ?hi760 ?hs760 ?hf760 ?hr760 ?hQ760 ?hy760 ?hS760 ?hrest760
      case hi760 => (simp only [List.getElem?_toArray, List.getElem?_cons_succ, List.getElem?_cons_zero] <;> exact rfl)
      case hs760 => kernel_rfl
      case hf760 => kernel_rfl
      case hr760 => kernel_rfl
      case hQ760 => exact fun _ _ _ h => h
      case hS760 => assumption
      case hy760 => (refine Or.inl ⟨by rfl, ?_⟩; intro w hSw; (try dsimp only at hSw); obtain ⟨z0, z1⟩ := hSw; go_simp; try with_reducible rfl)
      simp only [Act.put, List.setIfInBounds_toArray, List.set_cons_zero, List.set_cons_succ]
      refine wpAnyH_take (i := 18) (oi := ?oi769) (v := ?val769) ?hi769 ?hs769 ?hf769 ?hr769 ?hQ769 ?hy769 ?hS769 ?hrest769
      case hi769 => (simp only [List.getElem?_toArray, List.getElem?_cons_succ, List.getElem?_cons_zero] <;> exact rfl)
      case hs769 => kernel_rfl
      case hf769 => kernel_rfl
      case hr769 => kernel_rfl
      case hQ769 => exact fun _ _ _ h => h
      case hS769 => assumption
      case hy769 => (refine Or.inl ⟨by rfl, ?_⟩; intro w hSw; (try dsimp only at hSw); obtain ⟨z0, z1⟩ := hSw; go_simp; try with_reducible rfl)
      simp only [Act.put, List.setIfInBounds_toArray, List.set_cons_zero, List.set_cons_succ]
      refine wpAnyH_take (i := 19) (oi := ?oi778) (v := ?val778) ?hi778 ?hs778 ?hf778 ?hr778 ?hQ778 ?hy778 ?hS778 ?hrest778
      case hi778 => (simp only [List.getElem?_toArray, List.getElem?_cons_succ, List.getElem?_cons_zero] <;> exact rfl)
      case hs778 => kernel_rfl
      case hf778 => kernel_rfl
      case hr778 => kernel_rfl
      case hQ778 => exact fun _ _ _ h => h
      case hS778 => assumption
      case hy778 => (refine Or.inl ⟨by rfl, ?_⟩; intro w hSw; (try dsimp only at hSw); obtain ⟨z0, z1⟩ := hSw; go_simp; try with_reducible rfl)
      simp only [Act.put, List.setIfInBounds_toArray, List.set_cons_zero, List.set_cons_succ]
      refine wpAnyH_take (i := 20) (oi := ?oi787) (v := ?val787) ?hi787 ?hs787 ?hf787 ?hr787 ?hQ787 ?hy787 ?hS787 ?hrest787
      case hi787 => (simp only [List.getElem?_toArray, List.getElem?_cons_succ, List.getElem?_cons_zero] <;> exact rfl)
      case hs787 => kernel_rfl
      case hf787 => kernel_rfl
      case hr787 => kernel_rfl
      case hQ787 => exact fun _ _ _ h => h
      case hS787 => assumption
      case hy787 => (refine Or.inl ⟨by rfl, ?_⟩; intro w hSw; (try dsimp only at hSw); obtain ⟨z0, z1⟩ := hSw; go_simp; try with_reducible rfl)
      simp only [Act.put, List.setIfInBounds_toArray, List.set_cons_zero, List.set_cons_succ]
      refine wpAnyH_take (i := 21) (oi := ?oi796) (v := ?val796) ?hi796 ?hs796 ?hf796 ?hr796 ?hQ796 ?hy796 ?hS796 ?hrest796
      case hi796 => (simp only [List.getElem?_toArray, List.getElem?_cons_succ, List.getElem?_cons_zero] <;> exact rfl)
      case hs796 => kernel_rfl
      case hf796 => kernel_rfl
      case hr796 => kernel_rfl
      case hQ796 => exact fun _ _ _ h => h
      case hS796 => assumption
      case hy796 => (refine Or.inl ⟨by rfl, ?_⟩; intro w hSw; (try dsimp only at hSw); obtain ⟨z0, z1⟩ := hSw; go_simp; try with_reducible rfl)
      simp only [Act.put, List.setIfInBounds_toArray, List.set_cons_zero, List.set_cons_succ]
      refine wpAnyH_take (i := 22) (oi := ?oi805) (v := ?val805) ?hi805 ?hs805 ?hf805 ?hr805 ?hQ805 ?hy805 ?hS805 ?hrest805
      case hi805 => (simp only [List.getElem?_toArray, List.getElem?_cons_succ, List.getElem?_cons_zero] <;> exact rfl)
      case hs805 => kernel_rfl
      case hf805 => kernel_rfl
      case hr805 => kernel_rfl
      case hQ805 => exact fun _ _ _ h => h
      case hS805 => assumption
      case hy805 => (refine Or.inl ⟨by rfl, ?_⟩; intro w hSw; (try dsimp only at hSw); obtain ⟨z0, z1⟩ := hSw; go_simp; try with_reducible rfl)
      simp only [Act.put, List.setIfInBounds_toArray, List.set_cons_zero, List.set_cons_succ]
      refine wpAnyH_done (by kernel_rfl) ?_ _
      have hW3 := hW2.trans (hV2.mono hW2.size)
      have r1 := (Rd.of_own HO12.out).keep hV2
      have r2 := (Rd.of_own HO2.out).keep hV2
      have hoN := World.ownsRow_nil y2 y2.heap.size 95 3
      clear hHeld HO12 HO2 ZS ES ER Hpo Hx Hy s0_2 s1_2 hV0 hV1 hV2 hW2 Hr Hz hb hs hv
      obtain ⟨g, hg⟩ : ∃ g, g = y2.heap.size := ⟨_, rfl⟩
      rw [← hg] at hoN
      have hgw : w.heap.size ≤ g := by rw [hg]; exact hW3.size
      have R1 := Lib.hid r1
      clear r1
      have R2 := Lib.hid r2
      clear r2
      have HoN := Lib.hid hoN
      clear hoN
      have HW3 := Lib.hid hW3
      clear hW3
      go_wp2_with fail
      go_loopw [12, 53] (fun v i wr => ∃ (j : Nat) (B : Option Addr) (d : Nat), j ≤ m1 ∧ i = .int .i64 j ∧ v = .slice B j d ∧ wr.ownsRow g 95 3 (.slice B j d) j (cellsLink ((X.take j).map (linkOf false))) ∧ Below g y2 wr) (fun _ i _ => m1 - (intOf i).toNat)
      case atStart => exact ⟨0, _, _, Nat.zero_le _, rfl, rfl, HoN.out, by rw [hg]; exact Below.refl _ _⟩
      case round =>
        obtain ⟨j, B, d, hj, rfl, rfl, hown, hZ⟩ := hrel
        have hgz := hZ.size
        by_cases hlt : j < m1
        · have hlt2 : j < X.length := by rw [← Hm1.out]; exact hlt
          obtain ⟨b, o, rfl, hbl, p0, p1⟩ := rd_Step (R1.out.keep (hg ▸ hZ)) hlt2
          have hT : (X.take (j + 1)).map (linkOf false) = (X.take j).map (linkOf false) ++ [linkOf false X[j]] := by rw [List.take_succ_eq_append_getElem hlt2, List.map_append]; rfl
          obtain ⟨⟨x0, x1⟩, hx⟩ : ∃ x, x = X[j] := ⟨_, rfl⟩
          rw [← hx] at p0 p1 hT
          dsimp only at p0 p1
          rw [show linkOf false (x0, x1) = (x0, x1, false) from rfl] at hT
          have hWa := hZ.alloc (by omega) (.cells #[.int .i64 x0, .int .i64 x1] 61)
          have hoa := own_keep hown ((Below.refl _ wr).alloc (Nat.le_refl _) (.cells #[.int .i64 x0, .int .i64 x1] 61)) (Nat.le_refl _)
          clear hown
          have Hx := Lib.hid hx
          clear hx
          have HT := Lib.hid hT
          clear hT
          have HWa := Lib.hid hWa
          clear hWa
          go_wp2_with (at_builtin; refine wpList_app3 _ (wr.alloc (.cells #[.int .i64 x0, .int .i64 x1] 61)) rfl _ _ 26 rfl g 95 3 24 _ Try.underlying26 info_Link rfl (by omega) _ _ _ _ rfl rfl (by simp [go_sem]) hoa rfl (one_cell_link1 _ _ _) (by omega) (by unfold maxLen; omega) (by simp; omega) ?_; intro A5 c5 w5 hO5 hW5 hK5)
          have hW6 := HWa.out.trans hW5
          have hO6 : w5.ownsRow g 95 3 (.slice A5 (j + 1) c5) (j + 1) (cellsLink ((X.take (j + 1)).map (linkOf false))) := by rw [HT.out, cellsLink_snoc1]; exact hO5
          clear hO5 hoa hK5
          go_wp2_with fail
          go_roundw
          case rel => exact ⟨j + 1, A5, c5, by omega, by go_num, rfl, hO6, hW6⟩
          case measure => simp [intOf] <;> omega
        · have : j = m1 := by omega
          subst this
          have hT : X.take j = X := List.take_of_length_le (by rw [← Hm1.out]; exact Nat.le_refl _)
          rw [hT] at hown
          have hown0 : wr.ownsRow g 95 3 (.slice B (j + 0) d) (j + 0) (cellsLink (X.map (linkOf false) ++ (Y.reverse.take 0).map (linkOf true))) := by rw [List.take_zero, List.map_nil, List.append_nil]; exact hown
          clear hown HoN
          have HT := Lib.hid hT
          clear hT
          have Hown0 := Lib.hid hown0
          clear hown0
          go_wp2_with fail
          go_loopw [12, 15] (fun v i wq => ∃ (k q : Nat) (z : Int) (B : Option Addr) (d : Nat), k + q = m2 ∧ z = (q : Int) - 1 ∧ i = .int .i64 z ∧ v = .slice B (j + k) d ∧ wq.ownsRow g 95 3 (.slice B (j + k) d) (j + k) (cellsLink (X.map (linkOf false) ++ (Y.reverse.take k).map (linkOf true))) ∧ Below g y2 wq) (fun _ i _ => (intOf i + 1).toNat)
          case atStart => exact ⟨0, m2, _, B, d, by omega, rfl, rfl, rfl, Hown0.out, hZ⟩
          case round =>
            clear Hown0 hZ hgz
            obtain ⟨k, q, z, B, d, hkq, hz, rfl, rfl, hown, hZ⟩ := hrel
            have hgz := hZ.size
            cases q with
            | zero =>
              have hz1 : ¬ (0 : Int) ≤ z := by omega
              have hz2 : z < 0 := by omega
              have hk : k = m2 := by omega
              subst hk
              have hT2 : Y.reverse.take k = Y.reverse := List.take_of_length_le (by rw [List.length_reverse, ← Hm2.out]; exact Nat.le_refl _)
              rw [hT2, ← E1.out] at hown
              have hPL : (pfL l rs u v).length = j + k := by rw [E1.out, List.length_append, List.length_map, List.length_map, List.length_reverse, ← Hm1.out, ← Hm2.out]
              clear hT2
              have Hown := Lib.hid hown
              clear hown
              have HPL := Lib.hid hPL
              clear hPL
              go_wp2_with fail
              go_ret2
              rw [E0.out, HPL.out]
              exact ⟨B, d, rfl, own_mono Hown.out hgw, HW3.out.trans (hZ.mono hgw)⟩
            | succ q =>
              have hz1 : z = (q : Int) := by omega
              subst hz1
              clear hz
              have hqm : q < m2 := by omega
              have hq2 : q < Y.length := by rw [← Hm2.out]; omega
              have hk2 : k < Y.reverse.length := by rw [List.length_reverse, ← Hm2.out]; omega
              obtain ⟨b, o, rfl, hbl, p0, p1⟩ := rd_Step (R2.out.keep (hg ▸ hZ)) hq2
              have hel : Y.reverse[k] = Y[q] := by
                rw [List.getElem_reverse]
                congr 1
                rw [← Hm2.out]
                omega
              have hT : (Y.reverse.take (k + 1)).map (linkOf true) = (Y.reverse.take k).map (linkOf true) ++ [linkOf true Y[q]] := by rw [List.take_succ_eq_append_getElem hk2, List.map_append, hel]; rfl
              obtain ⟨⟨x0, x1⟩, hx⟩ : ∃ x, x = Y[q] := ⟨_, rfl⟩
              rw [← hx] at p0 p1 hT
              dsimp only at p0 p1
              rw [show linkOf true (x0, x1) = (x0, x1, true) from rfl] at hT
              have p0' : wr.drew.cell? ⟨b, o + q * 2, none⟩ = some (.int .i64 x0) := p0
              have p1' : wr.drew.cell? ⟨b, o + q * 2 + 1, none⟩ = some (.int .i64 x1) := p1
              have hod := own_drew1 hown
              clear hel hown
              have Hx := Lib.hid hx
              clear hx
              have HT := Lib.hid hT
              clear hT
              go_wp2_with fail
              go_region_law (refine step_app1 _ wr.drew rfl _ _ 26 rfl g 95 3 24 _ Try.underlying26 info_Link rfl (by omega) _ _ _ _ rfl rfl rfl hod rfl (one_cell_link1 _ _ _) (by omega) (by unfold maxLen; omega) (by simp; omega) ?_; intro A5 c5 w5 hO5 hW5)
              all_goals
                have hW6 := hZ.drew.trans hW5
                have hO6 : w5.ownsRow g 95 3 (.slice A5 (j + (k + 1)) c5) (j + (k + 1)) (cellsLink (X.map (linkOf false) ++ (Y.reverse.take (k + 1)).map (linkOf true))) := by rw [HT.out, ← List.append_assoc, cellsLink_snoc1]; exact hO5
                clear hO5 hod
                go_wp2_with fail
                go_roundw
                case rel => exact ⟨k + 1, q, _, A5, c5, by omega, rfl, rfl, rfl, hO6, hW6⟩
                case measure => simp [intOf] <;> omega

end Go.Proofs.Ytidmbeeadbedaaa
