/- For every input the law FnExactProductTable returns true and leaves its arguments as they were. No condition. -/
import Derived.Test.YtgnmfneinnojnaaProd
import Derived.Deep.Cut
import Derived.Test.YtgnmfneinnojnaaTable
import Derived.Test.YtgnmfneinnojnaaOpenArgs
import Derived.Test.YtgnmfneinnojnaaLawBase
import Derived.Test.YtgnmfneinnojnaaApp3
namespace Go.Proofs.Ytgnmfneinnojnaa
open Go.ChangeShapes Go.WideShapes Go.ChangeAt Go.RowKit Go.Shelf

set_option maxRecDepth 100000 in
set_option maxHeartbeats 1000000 in
theorem law_ProductTable (w : World) (v0 : Value) (z0 : Int × Option Addr × Nat × Nat × List Int) (R0 : OpenTable w v0 z0) (v1 : Value) (z1 : Int × Option Addr × Nat × Nat × List Int) (R1 : OpenTable w v1 z1) :
    Calls Try.prog 3 #[v0, v1] w (Kept w (.bool true)) := by
  obtain ⟨l0, A0, n0, c0, xs⟩ := z0
  obtain ⟨rfl, hr0, hn0, hm0, hz0⟩ := R0
  dsimp only at hr0 hn0 hm0 hz0
  obtain ⟨l1, A1, n1, c1, ys⟩ := z1
  obtain ⟨rfl, hr1, hn1, hm1, hz1⟩ := R1
  dsimp only at hr1 hn1 hm1 hz1
  have Hn0 := Lib.hid hn0
  clear hn0
  have Hn1 := Lib.hid hn1
  clear hn1
  go_enter Try.func3, Try.ntmps3
  go_wp2_with fail
  generalize hq : ((w.alloc (.cells #[.int .i64 l0, .slice A0 n0 c0] 24)).alloc (.cells #[.int .i64 l1, .slice A1 n1 c1] 24)) = w1
  have b1 : Below w.heap.size w w1 := by rw [← hq]; exact (((Below.refl _ _).alloc (by simp <;> omega) _).alloc (by simp <;> omega) _)
  have t1 := b1
  have xp0_1 : Bk w1 (w.heap.size) 24 #[.int .i64 l0, .slice A0 n0 c0] := by rw [← hq]; exact (((Bk.new w 24 #[.int .i64 l0, .slice A0 n0 c0]).alloc _)).cast (by simp)
  have xp1_1 : Bk w1 (w.heap.size + 1) 24 #[.int .i64 l1, .slice A1 n1 c1] := by rw [← hq]; exact ((Bk.new (w.alloc (.cells #[.int .i64 l0, .slice A0 n0 c0] 24)) 24 #[.int .i64 l1, .slice A1 n1 c1])).cast (by simp)
  clear hq
  have cp0_0 : w1.cell? ⟨w.heap.size, 0, none⟩ = some (.int .i64 l0) := by rw [xp0_1.cell]; rfl
  have cp0_1 : w1.cell? ⟨w.heap.size, 1, none⟩ = some (.slice A0 n0 c0) := by rw [xp0_1.cell]; rfl
  have lp0 := xp0_1.lt
  have XP0_1 := Lib.hid xp0_1
  clear xp0_1
  have cp1_0 : w1.cell? ⟨w.heap.size + 1, 0, none⟩ = some (.int .i64 l1) := by rw [xp1_1.cell]; rfl
  have cp1_1 : w1.cell? ⟨w.heap.size + 1, 1, none⟩ = some (.slice A1 n1 c1) := by rw [xp1_1.cell]; rfl
  have lp1 := xp1_1.lt
  have XP1_1 := Lib.hid xp1_1
  clear xp1_1
  (try go_wp2_with fail)
  (with_reducible refine (szTable_any l0 A0 n0 c0 xs 1048576 _ (hr0.keep t1) Hn0.out hm0 (by omega) (by omega)).mono ?_)
  rintro e w2 ⟨rfl, b2⟩
  have t2 := t1.trans (b2.mono t1.size)
  clear lp0 cp0_0 cp0_1
  clear lp1 cp1_0 cp1_1
  have xp0_2 := XP0_1.out.below b2 XP0_1.out.lt
  clear XP0_1
  have xp1_2 := XP1_1.out.below b2 XP1_1.out.lt
  clear XP1_1
  have cp0_0 : w2.cell? ⟨w.heap.size, 0, none⟩ = some (.int .i64 l0) := by rw [xp0_2.cell]; rfl
  have cp0_1 : w2.cell? ⟨w.heap.size, 1, none⟩ = some (.slice A0 n0 c0) := by rw [xp0_2.cell]; rfl
  have lp0 := xp0_2.lt
  have XP0_2 := Lib.hid xp0_2
  clear xp0_2
  have cp1_0 : w2.cell? ⟨w.heap.size + 1, 0, none⟩ = some (.int .i64 l1) := by rw [xp1_2.cell]; rfl
  have cp1_1 : w2.cell? ⟨w.heap.size + 1, 1, none⟩ = some (.slice A1 n1 c1) := by rw [xp1_2.cell]; rfl
  have lp1 := xp1_2.lt
  have XP1_2 := Lib.hid xp1_2
  clear xp1_2
  by_cases ht0 : (1048576 : Int) - (totInt xs : Nat) < 0
  · rw [szLeft, if_pos ht0]
    go_wp2_with fail
    go_ret
    exact ⟨rfl, t2⟩
  rw [szLeft, if_neg ht0]
  have hs0 : totInt xs ≤ 1048576 := by omega
  have hb0 : n0 ≤ 1048576 := by have := tot_len_ints xs; have := Hn0.out; omega
  have hl0 : (0 : Int) ≤ 1048576 - (totInt xs : Nat) := by omega
  clear ht0
  go_wp2_with fail
  (with_reducible refine (szTable_any l1 A1 n1 c1 ys (1048576 - (totInt xs : Nat)) _ (hr1.keep t2) Hn1.out hm1 (by omega) (by omega)).mono ?_)
  rintro e w3 ⟨rfl, b3⟩
  have t3 := t2.trans (b3.mono t2.size)
  clear lp0 cp0_0 cp0_1
  clear lp1 cp1_0 cp1_1
  have xp0_3 := XP0_2.out.below b3 XP0_2.out.lt
  clear XP0_2
  have xp1_3 := XP1_2.out.below b3 XP1_2.out.lt
  clear XP1_2
  have cp0_0 : w3.cell? ⟨w.heap.size, 0, none⟩ = some (.int .i64 l0) := by rw [xp0_3.cell]; rfl
  have cp0_1 : w3.cell? ⟨w.heap.size, 1, none⟩ = some (.slice A0 n0 c0) := by rw [xp0_3.cell]; rfl
  have lp0 := xp0_3.lt
  have XP0_3 := Lib.hid xp0_3
  clear xp0_3
  have cp1_0 : w3.cell? ⟨w.heap.size + 1, 0, none⟩ = some (.int .i64 l1) := by rw [xp1_3.cell]; rfl
  have cp1_1 : w3.cell? ⟨w.heap.size + 1, 1, none⟩ = some (.slice A1 n1 c1) := by rw [xp1_3.cell]; rfl
  have lp1 := xp1_3.lt
  have XP1_3 := Lib.hid xp1_3
  clear xp1_3
  by_cases ht1 : ((1048576 - (totInt xs : Nat)) : Int) - (totInt ys : Nat) < 0
  · rw [szLeft, if_pos ht1]
    go_wp2_with fail
    go_ret
    exact ⟨rfl, t3⟩
  rw [szLeft, if_neg ht1]
  have hs1 : totInt ys ≤ 1048576 := by omega
  have hb1 : n1 ≤ 1048576 := by have := tot_len_ints ys; have := Hn1.out; omega
  have hl1 : (0 : Int) ≤ (1048576 - (totInt xs : Nat)) - (totInt ys : Nat) := by omega
  clear ht1
  go_wp2_with fail
  have eS : ∀ w', Below w3.drew.heap.size w3.drew w' → w'.cell? ⟨w.heap.size, 0, none⟩ = some (.int .i64 l0) ∧ w'.cell? ⟨w.heap.size, 1, none⟩ = some (.slice A0 n0 c0) ∧ w'.cell? ⟨w.heap.size + 1, 0, none⟩ = some (.int .i64 l1) ∧ w'.cell? ⟨w.heap.size + 1, 1, none⟩ = some (.slice A1 n1 c1) := fun w' hb => ⟨(hb.cell (p := ⟨w.heap.size, 0, none⟩) XP0_3.out.lt).trans cp0_0, (hb.cell (p := ⟨w.heap.size, 1, none⟩) XP0_3.out.lt).trans cp0_1, (hb.cell (p := ⟨w.heap.size + 1, 0, none⟩) XP1_3.out.lt).trans cp1_0, (hb.cell (p := ⟨w.heap.size + 1, 1, none⟩) XP1_3.out.lt).trans cp1_1⟩
  have zS := eS _ (Below.refl _ _)
  have ES := Lib.hid eS
  clear eS
  have ZS := Lib.hid zS
  clear zS
  have td := t3.drew
  have hwd : w.heap.size ≤ (World.drew w3).heap.size := t3.size
  have hU : Below (World.drew w3).heap.size (World.drew w3) (World.drew w3) := Below.refl _ _
  have hlo : w3.heap.size ≤ (World.drew w3).heap.size := Nat.le_refl _
  go_cut [6, 7] from 17 (fun v6 v7 wr => ∃ (g : Nat) (B : Option Addr) (d : Nat), v6 = .pointer (some ⟨g, 0, none⟩) ∧ v7 = .bool (prodOk l0 xs l1 ys) ∧ w3.heap.size ≤ g ∧ Below w3.heap.size w3 wr ∧ Bk wr g 26 #[(.int .i64 (prodL l0 xs l1 ys)), (.slice B (prods l0 xs l1 ys).length d)] ∧ wr.ownsRow w3.heap.size 3 1 (.slice B (prods l0 xs l1 ys).length d) (prods l0 xs l1 ys).length (ints (prods l0 xs l1 ys)))
  case first =>
    refine wp_region_held_drew (S := (fun W => W.cell? ⟨w.heap.size, 0, none⟩ = some (.int .i64 l0) ∧ W.cell? ⟨w.heap.size, 1, none⟩ = some (.slice A0 n0 c0) ∧ W.cell? ⟨w.heap.size + 1, 0, none⟩ = some (.int .i64 l1) ∧ W.cell? ⟨w.heap.size + 1, 1, none⟩ = some (.slice A1 n1 c1))) (by kernel_rfl) (ZS.out) (fun hHeld => ?_)
    refine wpAnyH_take (i := 0) (oi := ?oi116) (v := ?val116) ?hi116 ?hs116 ?hf116 ?hr116 ?hQ116 ?hy116 ?hS116 ?hrest116
    case hi116 => (simp only [List.getElem?_toArray, List.getElem?_cons_succ, List.getElem?_cons_zero] <;> exact rfl)
    case hs116 => kernel_rfl
    case hf116 => kernel_rfl
    case hr116 => kernel_rfl
    case hQ116 => exact fun _ _ _ h => h
    case hS116 => assumption
    case hy116 => (refine Or.inl ⟨by rfl, ?_⟩; intro w hSw; (try dsimp only at hSw); (first | obtain ⟨z0, z1, z2, z3⟩ := hSw | obtain ⟨z0, z1, z2⟩ := hSw | obtain ⟨z0, z1⟩ := hSw | skip); go_simp; try with_reducible rfl)
    simp only [Act.put, List.setIfInBounds_toArray, List.set_cons_zero, List.set_cons_succ]
    refine wpAnyH_take (i := 2) (oi := ?oi125) (v := ?val125) ?hi125 ?hs125 ?hf125 ?hr125 ?hQ125 ?hy125 ?hS125 ?hrest125
    case hi125 => (simp only [List.getElem?_toArray, List.getElem?_cons_succ, List.getElem?_cons_zero] <;> exact rfl)
    case hs125 => kernel_rfl
    case hf125 => kernel_rfl
    case hr125 => kernel_rfl
    case hQ125 => exact fun _ _ _ h => h
    case hS125 => assumption
    case hy125 => (refine Or.inl ⟨by rfl, ?_⟩; intro w hSw; (try dsimp only at hSw); (first | obtain ⟨z0, z1, z2, z3⟩ := hSw | obtain ⟨z0, z1, z2⟩ := hSw | obtain ⟨z0, z1⟩ := hSw | skip); go_simp; try with_reducible rfl)
    simp only [Act.put, List.setIfInBounds_toArray, List.set_cons_zero, List.set_cons_succ]
    refine wpAnyH_ready (rs := [1, 8]) (by kernel_rfl) (by simp) ?_
    refine AllReadyH.cons rfl (fun K hK => ?_) (AllReadyH.cons rfl (fun K hK => ?_) AllReadyH.nil)
    · skip
      go_simp
      have rr := hr0.keep (td.trans (hU.mono hwd))
      with_reducible refine (toTable_any l0 A0 n0 c0 xs _ rr Hn0.out hb0).mono ?_
      rintro e y1 ⟨C1, e1, rfl, oy1, hX⟩
      have hU := hU.trans (hX.mono hU.size)
      refine hK.out _ _ (ES.out _ hU) (fun hHeld2 => ?_)
      clear hK K hHeld
      have hHeld := hHeld2
      clear hHeld2
      first | simp only [Act.put, List.setIfInBounds_toArray, List.set_cons_zero, List.set_cons_succ] | skip
      clear hX
      refine wpAnyH_ready (rs := [3, 8]) (by kernel_rfl) (by simp) ?_
      refine AllReadyH.cons rfl (fun K hK => ?_) (AllReadyH.cons rfl (fun K hK => ?_) AllReadyH.nil)
      · skip
        go_simp
        have rr := hr1.keep (td.trans (hU.mono hwd))
        with_reducible refine (toTable_any l1 A1 n1 c1 ys _ rr Hn1.out hb1).mono ?_
        rintro e y2 ⟨C2, e2, rfl, oy2, hX⟩
        have oy1 := own_keep oy1 hX (Nat.le_refl _)
        have hU := hU.trans (hX.mono hU.size)
        refine hK.out _ _ (ES.out _ hU) (fun hHeld2 => ?_)
        clear hK K hHeld
        have hHeld := hHeld2
        clear hHeld2
        first | simp only [Act.put, List.setIfInBounds_toArray, List.set_cons_zero, List.set_cons_succ] | skip
        clear hX
        refine wpAnyH_ready (rs := [4, 8]) (by kernel_rfl) (by simp) ?_
        refine AllReadyH.cons rfl (fun K hK => ?_) (AllReadyH.cons rfl (fun K hK => ?_) AllReadyH.nil)
        · skip
          go_simp
          have hUs : w3.heap.size ≤ _ := hU.size
          with_reducible refine (specProductTable_any l0 C1 n0 e1 xs l1 C2 n1 e2 ys _ (Rd.of_own oy1) Hn0.out hb0 (Rd.of_own oy2) Hn1.out hb1).mono ?_
          rintro e y3 ⟨B, d, rfl, oM, hX⟩
          have oM := own_mono (b' := w3.heap.size) oM hUs
          have hU := hU.trans (hX.mono hU.size)
          refine hK.out _ _ (ES.out _ hU) (fun hHeld2 => ?_)
          clear hK K hHeld
          have hHeld := hHeld2
          clear hHeld2
          first | simp only [Act.put, List.setIfInBounds_toArray, List.set_cons_zero, List.set_cons_succ] | skip
          clear hX
          refine wpAnyH_take (i := 5) (oi := ?oi178) (v := ?val178) ?hi178 ?hs178 ?hf178 ?hr178 ?hQ178 ?hy178 ?hS178 ?hrest178
          case hi178 => (simp only [List.getElem?_toArray, List.getElem?_cons_succ, List.getElem?_cons_zero] <;> exact rfl)
          case hs178 => kernel_rfl
          case hf178 => kernel_rfl
          case hr178 => kernel_rfl
          case hQ178 => exact fun _ _ _ h => h
          case hS178 => assumption
          case hy178 => (refine Or.inl ⟨by rfl, ?_⟩; intro w hSw; (try dsimp only at hSw); (first | obtain ⟨z0, z1, z2, z3⟩ := hSw | obtain ⟨z0, z1, z2⟩ := hSw | obtain ⟨z0, z1⟩ := hSw | skip); go_simp; try with_reducible rfl)
          simp only [Act.put, List.setIfInBounds_toArray, List.set_cons_zero, List.set_cons_succ]
          refine wpAnyH_take (i := 6) (oi := ?oi187) (v := ?val187) ?hi187 ?hs187 ?hf187 ?hr187 ?hQ187 ?hy187 ?hS187 ?hrest187
          case hi187 => (simp only [List.getElem?_toArray, List.getElem?_cons_succ, List.getElem?_cons_zero] <;> exact rfl)
          case hs187 => kernel_rfl
          case hf187 => kernel_rfl
          case hr187 => kernel_rfl
          case hQ187 => exact fun _ _ _ h => h
          case hS187 => assumption
          case hy187 => (refine Or.inl ⟨by rfl, ?_⟩; intro w hSw; (try dsimp only at hSw); (first | obtain ⟨z0, z1, z2, z3⟩ := hSw | obtain ⟨z0, z1, z2⟩ := hSw | obtain ⟨z0, z1⟩ := hSw | skip); go_simp; try with_reducible rfl)
          simp only [Act.put, List.setIfInBounds_toArray, List.set_cons_zero, List.set_cons_succ]
          refine wpAnyH_take (i := 7) (oi := ?oi196) (v := ?val196) ?hi196 ?hs196 ?hf196 ?hr196 ?hQ196 ?hy196 ?hS196 ?hrest196
          case hi196 => (simp only [List.getElem?_toArray, List.getElem?_cons_succ, List.getElem?_cons_zero] <;> exact rfl)
          case hs196 => kernel_rfl
          case hf196 => kernel_rfl
          case hr196 => kernel_rfl
          case hQ196 => exact fun _ _ _ h => h
          case hS196 => assumption
          case hy196 => (refine Or.inl ⟨by rfl, ?_⟩; intro w hSw; (try dsimp only at hSw); (first | obtain ⟨z0, z1, z2, z3⟩ := hSw | obtain ⟨z0, z1, z2⟩ := hSw | obtain ⟨z0, z1⟩ := hSw | skip); go_simp; try with_reducible rfl)
          simp only [Act.put, List.setIfInBounds_toArray, List.set_cons_zero, List.set_cons_succ]
          have hUy := hU
          have oMy := oM
          refine wpAnyH_ready (rs := [8]) (by kernel_rfl) (by simp) ?_
          refine AllReadyH.cons rfl (fun K hK => ?_) AllReadyH.nil
          go_simp
          refine hK.out _ _ (ES.out _ (hU.alloc hU.size _)) (fun hHeld2 => ?_)
          clear hK K hHeld
          have hHeld := hHeld2
          clear hHeld2
          first | simp only [Act.put, List.setIfInBounds_toArray, List.set_cons_zero, List.set_cons_succ] | skip
          have oM := own_keep oM ((Below.refl _ y3).alloc (Nat.le_refl _) (.cells #[.int .i64 0, .slice none 0 0] 26)) (Nat.le_refl _)
          have hZ := Bk.new y3 26 #[.int .i64 0, .slice none 0 0]
          have hgz : (World.drew w3).heap.size ≤ (y3).heap.size := hU.size
          have hU := hU.alloc hU.size (.cells #[.int .i64 0, .slice none 0 0] 26)
          refine wpAnyH_ready (rs := [9]) (by kernel_rfl) (by simp) ?_
          refine AllReadyH.cons rfl (fun K hK => ?_) AllReadyH.nil
          go_simp
          clear hU hZ
          have hU := hUy.alloc hUy.size (.cells #[(.int .i64 (prodL l0 xs l1 ys)), (.slice B (prods l0 xs l1 ys).length d)] 26)
          refine hK.out _ _ (ES.out _ hU) (fun hHeld2 => ?_)
          clear hK K hHeld
          have hHeld := hHeld2
          clear hHeld2
          first | simp only [Act.put, List.setIfInBounds_toArray, List.set_cons_zero, List.set_cons_succ] | skip
          have hF := Bk.new y3 26 #[(.int .i64 (prodL l0 xs l1 ys)), (.slice B (prods l0 xs l1 ys).length d)]
          have oF := own_keep oMy ((Below.refl _ y3).alloc (Nat.le_refl _) (.cells #[(.int .i64 (prodL l0 xs l1 ys)), (.slice B (prods l0 xs l1 ys).length d)] 26)) (Nat.le_refl _)
          refine wpAnyH_take (i := 10) (oi := ?oi231) (v := ?val231) ?hi231 ?hs231 ?hf231 ?hr231 ?hQ231 ?hy231 ?hS231 ?hrest231
          case hi231 => (simp only [List.getElem?_toArray, List.getElem?_cons_succ, List.getElem?_cons_zero] <;> exact rfl)
          case hs231 => kernel_rfl
          case hf231 => kernel_rfl
          case hr231 => kernel_rfl
          case hQ231 => exact fun _ _ _ h => h
          case hS231 => assumption
          case hy231 => (refine Or.inl ⟨by rfl, ?_⟩; intro w hSw; (try dsimp only at hSw); (first | obtain ⟨z0, z1, z2, z3⟩ := hSw | obtain ⟨z0, z1, z2⟩ := hSw | obtain ⟨z0, z1⟩ := hSw | skip); go_simp; try with_reducible rfl)
          simp only [Act.put, List.setIfInBounds_toArray, List.set_cons_zero, List.set_cons_succ]
          refine wpAnyH_done (by kernel_rfl) ?_ _
          (try go_wp2_with fail)
          go_meet
          case rel => exact ⟨_, B, d, rfl, rfl, Nat.le_trans hlo hgz, ((Below.refl _ w3).drew).trans hU, hF, oF⟩
        · skip
          go_simp
          refine hK.out _ _ (ES.out _ (hU.alloc hU.size _)) (fun hHeld2 => ?_)
          clear hK K hHeld
          have hHeld := hHeld2
          clear hHeld2
          first | simp only [Act.put, List.setIfInBounds_toArray, List.set_cons_zero, List.set_cons_succ] | skip
          have oy1 := own_keep oy1 ((Below.refl _ y2).alloc (Nat.le_refl _) (.cells #[.int .i64 0, .slice none 0 0] 26)) (Nat.le_refl _)
          have oy2 := own_keep oy2 ((Below.refl _ y2).alloc (Nat.le_refl _) (.cells #[.int .i64 0, .slice none 0 0] 26)) (Nat.le_refl _)
          have hZ := Bk.new y2 26 #[.int .i64 0, .slice none 0 0]
          have hgz : (World.drew w3).heap.size ≤ (y2).heap.size := hU.size
          have hU := hU.alloc hU.size (.cells #[.int .i64 0, .slice none 0 0] 26)
          refine wpAnyH_ready (rs := [4]) (by kernel_rfl) (by simp) ?_
          refine AllReadyH.cons rfl (fun K hK => ?_) AllReadyH.nil
          go_simp
          have hUs : w3.heap.size ≤ _ := hU.size
          with_reducible refine (specProductTable_any l0 C1 n0 e1 xs l1 C2 n1 e2 ys _ (Rd.of_own oy1) Hn0.out hb0 (Rd.of_own oy2) Hn1.out hb1).mono ?_
          rintro e y3 ⟨B, d, rfl, oM, hX⟩
          have oM := own_mono (b' := w3.heap.size) oM hUs
          have hU := hU.trans (hX.mono hU.size)
          have hZ := hZ.below hX hZ.lt
          refine hK.out _ _ (ES.out _ hU) (fun hHeld2 => ?_)
          clear hK K hHeld
          have hHeld := hHeld2
          clear hHeld2
          first | simp only [Act.put, List.setIfInBounds_toArray, List.set_cons_zero, List.set_cons_succ] | skip
          clear hX
          refine wpAnyH_take (i := 5) (oi := ?oi271) (v := ?val271) ?hi271 ?hs271 ?hf271 ?hr271 ?hQ271 ?hy271 ?hS271 ?hrest271
          case hi271 => (simp only [List.getElem?_toArray, List.getElem?_cons_succ, List.getElem?_cons_zero] <;> exact rfl)
          case hs271 => kernel_rfl
          case hf271 => kernel_rfl
          case hr271 => kernel_rfl
          case hQ271 => exact fun _ _ _ h => h
          case hS271 => assumption
          case hy271 => (refine Or.inl ⟨by rfl, ?_⟩; intro w hSw; (try dsimp only at hSw); (first | obtain ⟨z0, z1, z2, z3⟩ := hSw | obtain ⟨z0, z1, z2⟩ := hSw | obtain ⟨z0, z1⟩ := hSw | skip); go_simp; try with_reducible rfl)
          simp only [Act.put, List.setIfInBounds_toArray, List.set_cons_zero, List.set_cons_succ]
          refine wpAnyH_take (i := 6) (oi := ?oi280) (v := ?val280) ?hi280 ?hs280 ?hf280 ?hr280 ?hQ280 ?hy280 ?hS280 ?hrest280
          case hi280 => (simp only [List.getElem?_toArray, List.getElem?_cons_succ, List.getElem?_cons_zero] <;> exact rfl)
          case hs280 => kernel_rfl
          case hf280 => kernel_rfl
          case hr280 => kernel_rfl
          case hQ280 => exact fun _ _ _ h => h
          case hS280 => assumption
          case hy280 => (refine Or.inl ⟨by rfl, ?_⟩; intro w hSw; (try dsimp only at hSw); (first | obtain ⟨z0, z1, z2, z3⟩ := hSw | obtain ⟨z0, z1, z2⟩ := hSw | obtain ⟨z0, z1⟩ := hSw | skip); go_simp; try with_reducible rfl)
          simp only [Act.put, List.setIfInBounds_toArray, List.set_cons_zero, List.set_cons_succ]
          refine wpAnyH_take (i := 7) (oi := ?oi289) (v := ?val289) ?hi289 ?hs289 ?hf289 ?hr289 ?hQ289 ?hy289 ?hS289 ?hrest289
          case hi289 => (simp only [List.getElem?_toArray, List.getElem?_cons_succ, List.getElem?_cons_zero] <;> exact rfl)
          case hs289 => kernel_rfl
          case hf289 => kernel_rfl
          case hr289 => kernel_rfl
          case hQ289 => exact fun _ _ _ h => h
          case hS289 => assumption
          case hy289 => (refine Or.inl ⟨by rfl, ?_⟩; intro w hSw; (try dsimp only at hSw); (first | obtain ⟨z0, z1, z2, z3⟩ := hSw | obtain ⟨z0, z1, z2⟩ := hSw | obtain ⟨z0, z1⟩ := hSw | skip); go_simp; try with_reducible rfl)
          simp only [Act.put, List.setIfInBounds_toArray, List.set_cons_zero, List.set_cons_succ]
          have z0 : y3.cell? ⟨y2.heap.size, 0, none⟩ = some (.int .i64 0) := by rw [hZ.cell]; rfl
          have z1 : y3.cell? ⟨y2.heap.size, 1, none⟩ = some (.slice none 0 0) := by rw [hZ.cell]; rfl
          have zf0 := hZ.free 0
          have zf1 := hZ.free 1
          have zl := hZ.lt
          refine wpAnyH_ready (rs := [9]) (by kernel_rfl) (by simp) ?_
          refine AllReadyH.cons rfl (fun K hK => ?_) AllReadyH.nil
          go_simp
          have hU := (hU.setCell (p := ⟨y2.heap.size, 0, none⟩) hgz (.int .i64 (prodL l0 xs l1 ys))).setCell (p := ⟨y2.heap.size, 1, none⟩) hgz (.slice B (prods l0 xs l1 ys).length d)
          refine hK.out _ _ (ES.out _ hU) (fun hHeld2 => ?_)
          clear hK K hHeld
          have hHeld := hHeld2
          clear hHeld2
          first | simp only [Act.put, List.setIfInBounds_toArray, List.set_cons_zero, List.set_cons_succ] | skip
          have hne := own_bk_ne oM hZ (by decide)
          have oF := own_far3 (own_far3 oM (p := ⟨y2.heap.size, 0, none⟩) (Ne.symm hne) (.int .i64 (prodL l0 xs l1 ys))) (p := ⟨y2.heap.size, 1, none⟩) (Ne.symm hne) (.slice B (prods l0 xs l1 ys).length d)
          have hF := (hZ.put 0 (.int .i64 (prodL l0 xs l1 ys))).put 1 (.slice B (prods l0 xs l1 ys).length d)
          refine wpAnyH_take (i := 10) (oi := ?oi315) (v := ?val315) ?hi315 ?hs315 ?hf315 ?hr315 ?hQ315 ?hy315 ?hS315 ?hrest315
          case hi315 => (simp only [List.getElem?_toArray, List.getElem?_cons_succ, List.getElem?_cons_zero] <;> exact rfl)
          case hs315 => kernel_rfl
          case hf315 => kernel_rfl
          case hr315 => kernel_rfl
          case hQ315 => exact fun _ _ _ h => h
          case hS315 => assumption
          case hy315 => (refine Or.inl ⟨by rfl, ?_⟩; intro w hSw; (try dsimp only at hSw); (first | obtain ⟨z0, z1, z2, z3⟩ := hSw | obtain ⟨z0, z1, z2⟩ := hSw | obtain ⟨z0, z1⟩ := hSw | skip); go_simp; try with_reducible rfl)
          simp only [Act.put, List.setIfInBounds_toArray, List.set_cons_zero, List.set_cons_succ]
          refine wpAnyH_done (by kernel_rfl) ?_ _
          (try go_wp2_with fail)
          go_meet
          case rel => exact ⟨_, B, d, rfl, rfl, Nat.le_trans hlo hgz, ((Below.refl _ w3).drew).trans hU, hF, oF⟩
      · skip
        go_simp
        refine hK.out _ _ (ES.out _ (hU.alloc hU.size _)) (fun hHeld2 => ?_)
        clear hK K hHeld
        have hHeld := hHeld2
        clear hHeld2
        first | simp only [Act.put, List.setIfInBounds_toArray, List.set_cons_zero, List.set_cons_succ] | skip
        have oy1 := own_keep oy1 ((Below.refl _ y1).alloc (Nat.le_refl _) (.cells #[.int .i64 0, .slice none 0 0] 26)) (Nat.le_refl _)
        have hZ := Bk.new y1 26 #[.int .i64 0, .slice none 0 0]
        have hgz : (World.drew w3).heap.size ≤ (y1).heap.size := hU.size
        have hU := hU.alloc hU.size (.cells #[.int .i64 0, .slice none 0 0] 26)
        refine wpAnyH_ready (rs := [3]) (by kernel_rfl) (by simp) ?_
        refine AllReadyH.cons rfl (fun K hK => ?_) AllReadyH.nil
        go_simp
        have rr := hr1.keep (td.trans (hU.mono hwd))
        with_reducible refine (toTable_any l1 A1 n1 c1 ys _ rr Hn1.out hb1).mono ?_
        rintro e y2 ⟨C2, e2, rfl, oy2, hX⟩
        have oy1 := own_keep oy1 hX (Nat.le_refl _)
        have hU := hU.trans (hX.mono hU.size)
        have hZ := hZ.below hX hZ.lt
        refine hK.out _ _ (ES.out _ hU) (fun hHeld2 => ?_)
        clear hK K hHeld
        have hHeld := hHeld2
        clear hHeld2
        first | simp only [Act.put, List.setIfInBounds_toArray, List.set_cons_zero, List.set_cons_succ] | skip
        clear hX
        refine wpAnyH_ready (rs := [4]) (by kernel_rfl) (by simp) ?_
        refine AllReadyH.cons rfl (fun K hK => ?_) AllReadyH.nil
        go_simp
        have hUs : w3.heap.size ≤ _ := hU.size
        with_reducible refine (specProductTable_any l0 C1 n0 e1 xs l1 C2 n1 e2 ys _ (Rd.of_own oy1) Hn0.out hb0 (Rd.of_own oy2) Hn1.out hb1).mono ?_
        rintro e y3 ⟨B, d, rfl, oM, hX⟩
        have oM := own_mono (b' := w3.heap.size) oM hUs
        have hU := hU.trans (hX.mono hU.size)
        have hZ := hZ.below hX hZ.lt
        refine hK.out _ _ (ES.out _ hU) (fun hHeld2 => ?_)
        clear hK K hHeld
        have hHeld := hHeld2
        clear hHeld2
        first | simp only [Act.put, List.setIfInBounds_toArray, List.set_cons_zero, List.set_cons_succ] | skip
        clear hX
        refine wpAnyH_take (i := 5) (oi := ?oi369) (v := ?val369) ?hi369 ?hs369 ?hf369 ?hr369 ?hQ369 ?hy369 ?hS369 ?hrest369
        case hi369 => (simp only [List.getElem?_toArray, List.getElem?_cons_succ, List.getElem?_cons_zero] <;> exact rfl)
        case hs369 => kernel_rfl
        case hf369 => kernel_rfl
        case hr369 => kernel_rfl
        case hQ369 => exact fun _ _ _ h => h
        case hS369 => assumption
        case hy369 => (refine Or.inl ⟨by rfl, ?_⟩; intro w hSw; (try dsimp only at hSw); (first | obtain ⟨z0, z1, z2, z3⟩ := hSw | obtain ⟨z0, z1, z2⟩ := hSw | obtain ⟨z0, z1⟩ := hSw | skip); go_simp; try with_reducible rfl)
        simp only [Act.put, List.setIfInBounds_toArray, List.set_cons_zero, List.set_cons_succ]
        refine wpAnyH_take (i := 6) (oi := ?oi378) (v := ?val378) ?hi378 ?hs378 ?hf378 ?hr378 ?hQ378 ?hy378 ?hS378 ?hrest378
        case hi378 => (simp only [List.getElem?_toArray, List.getElem?_cons_succ, List.getElem?_cons_zero] <;> exact rfl)
        case hs378 => kernel_rfl
        case hf378 => kernel_rfl
        case hr378 => kernel_rfl
        case hQ378 => exact fun _ _ _ h => h
        case hS378 => assumption
        case hy378 => (refine Or.inl ⟨by rfl, ?_⟩; intro w hSw; (try dsimp only at hSw); (first | obtain ⟨z0, z1, z2, z3⟩ := hSw | obtain ⟨z0, z1, z2⟩ := hSw | obtain ⟨z0, z1⟩ := hSw | skip); go_simp; try with_reducible rfl)
        simp only [Act.put, List.setIfInBounds_toArray, List.set_cons_zero, List.set_cons_succ]
        refine wpAnyH_take (i := 7) (oi := ?oi387) (v := ?val387) ?hi387 ?hs387 ?hf387 ?hr387 ?hQ387 ?hy387 ?hS387 ?hrest387
        case hi387 => (simp only [List.getElem?_toArray, List.getElem?_cons_succ, List.getElem?_cons_zero] <;> exact rfl)
        case hs387 => kernel_rfl
        case hf387 => kernel_rfl
        case hr387 => kernel_rfl
        case hQ387 => exact fun _ _ _ h => h
        case hS387 => assumption
        case hy387 => (refine Or.inl ⟨by rfl, ?_⟩; intro w hSw; (try dsimp only at hSw); (first | obtain ⟨z0, z1, z2, z3⟩ := hSw | obtain ⟨z0, z1, z2⟩ := hSw | obtain ⟨z0, z1⟩ := hSw | skip); go_simp; try with_reducible rfl)
        simp only [Act.put, List.setIfInBounds_toArray, List.set_cons_zero, List.set_cons_succ]
        have z0 : y3.cell? ⟨y1.heap.size, 0, none⟩ = some (.int .i64 0) := by rw [hZ.cell]; rfl
        have z1 : y3.cell? ⟨y1.heap.size, 1, none⟩ = some (.slice none 0 0) := by rw [hZ.cell]; rfl
        have zf0 := hZ.free 0
        have zf1 := hZ.free 1
        have zl := hZ.lt
        refine wpAnyH_ready (rs := [9]) (by kernel_rfl) (by simp) ?_
        refine AllReadyH.cons rfl (fun K hK => ?_) AllReadyH.nil
        go_simp
        have hU := (hU.setCell (p := ⟨y1.heap.size, 0, none⟩) hgz (.int .i64 (prodL l0 xs l1 ys))).setCell (p := ⟨y1.heap.size, 1, none⟩) hgz (.slice B (prods l0 xs l1 ys).length d)
        refine hK.out _ _ (ES.out _ hU) (fun hHeld2 => ?_)
        clear hK K hHeld
        have hHeld := hHeld2
        clear hHeld2
        first | simp only [Act.put, List.setIfInBounds_toArray, List.set_cons_zero, List.set_cons_succ] | skip
        have hne := own_bk_ne oM hZ (by decide)
        have oF := own_far3 (own_far3 oM (p := ⟨y1.heap.size, 0, none⟩) (Ne.symm hne) (.int .i64 (prodL l0 xs l1 ys))) (p := ⟨y1.heap.size, 1, none⟩) (Ne.symm hne) (.slice B (prods l0 xs l1 ys).length d)
        have hF := (hZ.put 0 (.int .i64 (prodL l0 xs l1 ys))).put 1 (.slice B (prods l0 xs l1 ys).length d)
        refine wpAnyH_take (i := 10) (oi := ?oi413) (v := ?val413) ?hi413 ?hs413 ?hf413 ?hr413 ?hQ413 ?hy413 ?hS413 ?hrest413
        case hi413 => (simp only [List.getElem?_toArray, List.getElem?_cons_succ, List.getElem?_cons_zero] <;> exact rfl)
        case hs413 => kernel_rfl
        case hf413 => kernel_rfl
        case hr413 => kernel_rfl
        case hQ413 => exact fun _ _ _ h => h
        case hS413 => assumption
        case hy413 => (refine Or.inl ⟨by rfl, ?_⟩; intro w hSw; (try dsimp only at hSw); (first | obtain ⟨z0, z1, z2, z3⟩ := hSw | obtain ⟨z0, z1, z2⟩ := hSw | obtain ⟨z0, z1⟩ := hSw | skip); go_simp; try with_reducible rfl)
        simp only [Act.put, List.setIfInBounds_toArray, List.set_cons_zero, List.set_cons_succ]
        refine wpAnyH_done (by kernel_rfl) ?_ _
        (try go_wp2_with fail)
        go_meet
        case rel => exact ⟨_, B, d, rfl, rfl, Nat.le_trans hlo hgz, ((Below.refl _ w3).drew).trans hU, hF, oF⟩
    · skip
      go_simp
      refine hK.out _ _ (ES.out _ (hU.alloc hU.size _)) (fun hHeld2 => ?_)
      clear hK K hHeld
      have hHeld := hHeld2
      clear hHeld2
      first | simp only [Act.put, List.setIfInBounds_toArray, List.set_cons_zero, List.set_cons_succ] | skip
      have hZ : Bk (World.drew (World.alloc w3 (.cells #[.int .i64 0, .slice none 0 0] 26))) w3.heap.size 26 #[.int .i64 0, .slice none 0 0] := Bk.new (World.drew w3) _ _
      have hgz : (World.drew w3).heap.size ≤ w3.heap.size := Nat.le_refl _
      have hU : Below (World.drew w3).heap.size (World.drew w3) (World.drew (World.alloc w3 (.cells #[.int .i64 0, .slice none 0 0] 26))) := hU.alloc hU.size (.cells #[.int .i64 0, .slice none 0 0] 26)
      refine wpAnyH_ready (rs := [1]) (by kernel_rfl) (by simp) ?_
      refine AllReadyH.cons rfl (fun K hK => ?_) AllReadyH.nil
      go_simp
      have rr := hr0.keep (td.trans (hU.mono hwd))
      with_reducible refine (toTable_any l0 A0 n0 c0 xs _ rr Hn0.out hb0).mono ?_
      rintro e y1 ⟨C1, e1, rfl, oy1, hX⟩
      have hU := hU.trans (hX.mono hU.size)
      have hZ := hZ.below hX hZ.lt
      refine hK.out _ _ (ES.out _ hU) (fun hHeld2 => ?_)
      clear hK K hHeld
      have hHeld := hHeld2
      clear hHeld2
      first | simp only [Act.put, List.setIfInBounds_toArray, List.set_cons_zero, List.set_cons_succ] | skip
      clear hX
      refine wpAnyH_ready (rs := [3]) (by kernel_rfl) (by simp) ?_
      refine AllReadyH.cons rfl (fun K hK => ?_) AllReadyH.nil
      go_simp
      have rr := hr1.keep (td.trans (hU.mono hwd))
      with_reducible refine (toTable_any l1 A1 n1 c1 ys _ rr Hn1.out hb1).mono ?_
      rintro e y2 ⟨C2, e2, rfl, oy2, hX⟩
      have oy1 := own_keep oy1 hX (Nat.le_refl _)
      have hU := hU.trans (hX.mono hU.size)
      have hZ := hZ.below hX hZ.lt
      refine hK.out _ _ (ES.out _ hU) (fun hHeld2 => ?_)
      clear hK K hHeld
      have hHeld := hHeld2
      clear hHeld2
      first | simp only [Act.put, List.setIfInBounds_toArray, List.set_cons_zero, List.set_cons_succ] | skip
      clear hX
      refine wpAnyH_ready (rs := [4]) (by kernel_rfl) (by simp) ?_
      refine AllReadyH.cons rfl (fun K hK => ?_) AllReadyH.nil
      go_simp
      have hUs : w3.heap.size ≤ _ := hU.size
      with_reducible refine (specProductTable_any l0 C1 n0 e1 xs l1 C2 n1 e2 ys _ (Rd.of_own oy1) Hn0.out hb0 (Rd.of_own oy2) Hn1.out hb1).mono ?_
      rintro e y3 ⟨B, d, rfl, oM, hX⟩
      have oM := own_mono (b' := w3.heap.size) oM hUs
      have hU := hU.trans (hX.mono hU.size)
      have hZ := hZ.below hX hZ.lt
      refine hK.out _ _ (ES.out _ hU) (fun hHeld2 => ?_)
      clear hK K hHeld
      have hHeld := hHeld2
      clear hHeld2
      first | simp only [Act.put, List.setIfInBounds_toArray, List.set_cons_zero, List.set_cons_succ] | skip
      clear hX
      refine wpAnyH_take (i := 5) (oi := ?oi480) (v := ?val480) ?hi480 ?hs480 ?hf480 ?hr480 ?hQ480 ?hy480 ?hS480 ?hrest480
      case hi480 => (simp only [List.getElem?_toArray, List.getElem?_cons_succ, List.getElem?_cons_zero] <;> exact rfl)
      case hs480 => kernel_rfl
      case hf480 => kernel_rfl
      case hr480 => kernel_rfl
      case hQ480 => exact fun _ _ _ h => h
      case hS480 => assumption
      case hy480 => (refine Or.inl ⟨by rfl, ?_⟩; intro w hSw; (try dsimp only at hSw); (first | obtain ⟨z0, z1, z2, z3⟩ := hSw | obtain ⟨z0, z1, z2⟩ := hSw | obtain ⟨z0, z1⟩ := hSw | skip); go_simp; try with_reducible rfl)
      simp only [Act.put, List.setIfInBounds_toArray, List.set_cons_zero, List.set_cons_succ]
      refine wpAnyH_take (i := 6) (oi := ?oi489) (v := ?val489) ?hi489 ?hs489 ?hf489 ?hr489 ?hQ489 ?hy489 ?hS489 ?hrest489
      case hi489 => (simp only [List.getElem?_toArray, List.getElem?_cons_succ, List.getElem?_cons_zero] <;> exact rfl)
      case hs489 => kernel_rfl
      case hf489 => kernel_rfl
      case hr489 => kernel_rfl
      case hQ489 => exact fun _ _ _ h => h
      case hS489 => assumption
      case hy489 => (refine Or.inl ⟨by rfl, ?_⟩; intro w hSw; (try dsimp only at hSw); (first | obtain ⟨z0, z1, z2, z3⟩ := hSw | obtain ⟨z0, z1, z2⟩ := hSw | obtain ⟨z0, z1⟩ := hSw | skip); go_simp; try with_reducible rfl)
      simp only [Act.put, List.setIfInBounds_toArray, List.set_cons_zero, List.set_cons_succ]
      refine wpAnyH_take (i := 7) (oi := ?oi498) (v := ?val498) ?hi498 ?hs498 ?hf498 ?hr498 ?hQ498 ?hy498 ?hS498 ?hrest498
      case hi498 => (simp only [List.getElem?_toArray, List.getElem?_cons_succ, List.getElem?_cons_zero] <;> exact rfl)
      case hs498 => kernel_rfl
      case hf498 => kernel_rfl
      case hr498 => kernel_rfl
      case hQ498 => exact fun _ _ _ h => h
      case hS498 => assumption
      case hy498 => (refine Or.inl ⟨by rfl, ?_⟩; intro w hSw; (try dsimp only at hSw); (first | obtain ⟨z0, z1, z2, z3⟩ := hSw | obtain ⟨z0, z1, z2⟩ := hSw | obtain ⟨z0, z1⟩ := hSw | skip); go_simp; try with_reducible rfl)
      simp only [Act.put, List.setIfInBounds_toArray, List.set_cons_zero, List.set_cons_succ]
      have z0 : y3.cell? ⟨w3.heap.size, 0, none⟩ = some (.int .i64 0) := by rw [hZ.cell]; rfl
      have z1 : y3.cell? ⟨w3.heap.size, 1, none⟩ = some (.slice none 0 0) := by rw [hZ.cell]; rfl
      have zf0 := hZ.free 0
      have zf1 := hZ.free 1
      have zl := hZ.lt
      refine wpAnyH_ready (rs := [9]) (by kernel_rfl) (by simp) ?_
      refine AllReadyH.cons rfl (fun K hK => ?_) AllReadyH.nil
      go_simp
      have hU := (hU.setCell (p := ⟨w3.heap.size, 0, none⟩) hgz (.int .i64 (prodL l0 xs l1 ys))).setCell (p := ⟨w3.heap.size, 1, none⟩) hgz (.slice B (prods l0 xs l1 ys).length d)
      refine hK.out _ _ (ES.out _ hU) (fun hHeld2 => ?_)
      clear hK K hHeld
      have hHeld := hHeld2
      clear hHeld2
      first | simp only [Act.put, List.setIfInBounds_toArray, List.set_cons_zero, List.set_cons_succ] | skip
      have hne := own_bk_ne oM hZ (by decide)
      have oF := own_far3 (own_far3 oM (p := ⟨w3.heap.size, 0, none⟩) (Ne.symm hne) (.int .i64 (prodL l0 xs l1 ys))) (p := ⟨w3.heap.size, 1, none⟩) (Ne.symm hne) (.slice B (prods l0 xs l1 ys).length d)
      have hF := (hZ.put 0 (.int .i64 (prodL l0 xs l1 ys))).put 1 (.slice B (prods l0 xs l1 ys).length d)
      refine wpAnyH_take (i := 10) (oi := ?oi524) (v := ?val524) ?hi524 ?hs524 ?hf524 ?hr524 ?hQ524 ?hy524 ?hS524 ?hrest524
      case hi524 => (simp only [List.getElem?_toArray, List.getElem?_cons_succ, List.getElem?_cons_zero] <;> exact rfl)
      case hs524 => kernel_rfl
      case hf524 => kernel_rfl
      case hr524 => kernel_rfl
      case hQ524 => exact fun _ _ _ h => h
      case hS524 => assumption
      case hy524 => (refine Or.inl ⟨by rfl, ?_⟩; intro w hSw; (try dsimp only at hSw); (first | obtain ⟨z0, z1, z2, z3⟩ := hSw | obtain ⟨z0, z1, z2⟩ := hSw | obtain ⟨z0, z1⟩ := hSw | skip); go_simp; try with_reducible rfl)
      simp only [Act.put, List.setIfInBounds_toArray, List.set_cons_zero, List.set_cons_succ]
      refine wpAnyH_done (by kernel_rfl) ?_ _
      (try go_wp2_with fail)
      go_meet
      case rel => exact ⟨_, B, d, rfl, rfl, Nat.le_trans hlo hgz, ((Below.refl _ w3).drew).trans hU, hF, oF⟩
  obtain ⟨g4, B4, d4, rfl, rfl, hg4, b4, xv4_4, og4_4⟩ := hcut
  rename World => w4
  have t4 := t3.trans (b4.mono t3.size)
  clear td hwd hU hlo ES ZS
  clear lp0 cp0_0 cp0_1
  clear lp1 cp1_0 cp1_1
  have xp0_4 := XP0_3.out.below b4 XP0_3.out.lt
  clear XP0_3
  have xp1_4 := XP1_3.out.below b4 XP1_3.out.lt
  clear XP1_3
  have cp0_0 : w4.cell? ⟨w.heap.size, 0, none⟩ = some (.int .i64 l0) := by rw [xp0_4.cell]; rfl
  have cp0_1 : w4.cell? ⟨w.heap.size, 1, none⟩ = some (.slice A0 n0 c0) := by rw [xp0_4.cell]; rfl
  have lp0 := xp0_4.lt
  have XP0_4 := Lib.hid xp0_4
  clear xp0_4
  have cp1_0 : w4.cell? ⟨w.heap.size + 1, 0, none⟩ = some (.int .i64 l1) := by rw [xp1_4.cell]; rfl
  have cp1_1 : w4.cell? ⟨w.heap.size + 1, 1, none⟩ = some (.slice A1 n1 c1) := by rw [xp1_4.cell]; rfl
  have lp1 := xp1_4.lt
  have XP1_4 := Lib.hid xp1_4
  clear xp1_4
  have cv4_0 : w4.cell? ⟨g4, 0, none⟩ = some (.int .i64 (prodL l0 xs l1 ys)) := by rw [xv4_4.cell]; rfl
  have cv4_1 : w4.cell? ⟨g4, 1, none⟩ = some (.slice B4 ((prods l0 xs l1 ys).length) d4) := by rw [xv4_4.cell]; rfl
  have lv4 := xv4_4.lt
  have XV4_4 := Lib.hid xv4_4
  clear xv4_4
  go_wp2_with fail
  (with_reducible refine (toTable_any l0 A0 n0 c0 xs _ (hr0.keep t4) Hn0.out hb0).mono ?_)
  rintro e w5 ⟨B5, d5, rfl, ox5_5, b5⟩
  have t5 := t4.trans (b5.mono t4.size)
  have a_g4_x5 := Lib.hid (own_apart og4_4 ox5_5 (Nat.le_refl _))
  have a_x5_g4 := Lib.hid (own_apart' ox5_5 og4_4 (Nat.le_refl _))
  clear lp0 cp0_0 cp0_1
  clear lp1 cp1_0 cp1_1
  clear lv4 cv4_0 cv4_1
  have og4_5 := own_keep og4_4 b5 (Nat.le_refl _)
  clear og4_4
  have xp0_5 := XP0_4.out.below b5 XP0_4.out.lt
  clear XP0_4
  have xp1_5 := XP1_4.out.below b5 XP1_4.out.lt
  clear XP1_4
  have xv4_5 := XV4_4.out.below b5 XV4_4.out.lt
  clear XV4_4
  have cp0_0 : w5.cell? ⟨w.heap.size, 0, none⟩ = some (.int .i64 l0) := by rw [xp0_5.cell]; rfl
  have cp0_1 : w5.cell? ⟨w.heap.size, 1, none⟩ = some (.slice A0 n0 c0) := by rw [xp0_5.cell]; rfl
  have lp0 := xp0_5.lt
  have XP0_5 := Lib.hid xp0_5
  clear xp0_5
  have cp1_0 : w5.cell? ⟨w.heap.size + 1, 0, none⟩ = some (.int .i64 l1) := by rw [xp1_5.cell]; rfl
  have cp1_1 : w5.cell? ⟨w.heap.size + 1, 1, none⟩ = some (.slice A1 n1 c1) := by rw [xp1_5.cell]; rfl
  have lp1 := xp1_5.lt
  have XP1_5 := Lib.hid xp1_5
  clear xp1_5
  have cv4_0 : w5.cell? ⟨g4, 0, none⟩ = some (.int .i64 (prodL l0 xs l1 ys)) := by rw [xv4_5.cell]; rfl
  have cv4_1 : w5.cell? ⟨g4, 1, none⟩ = some (.slice B4 ((prods l0 xs l1 ys).length) d4) := by rw [xv4_5.cell]; rfl
  have lv4 := xv4_5.lt
  have XV4_5 := Lib.hid xv4_5
  clear xv4_5
  go_wp2_with fail
  generalize hq : w5.alloc (.cells #[.int .i64 l0, .slice B5 n0 d5] 26) = w6
  have b6 : Below w5.heap.size w5 w6 := by rw [← hq]; exact (Below.refl _ _).alloc (Nat.le_refl _) _
  have t6 := t5.trans (b6.mono t5.size)
  have xv6_6 : Bk w6 w5.heap.size 26 #[.int .i64 l0, .slice B5 n0 d5] := by rw [← hq]; exact Bk.new _ _ _
  clear hq
  clear lp0 cp0_0 cp0_1
  clear lp1 cp1_0 cp1_1
  clear lv4 cv4_0 cv4_1
  have og4_6 := own_keep og4_5 b6 (Nat.le_refl _)
  clear og4_5
  have ox5_6 := own_keep ox5_5 b6 (Nat.le_refl _)
  clear ox5_5
  have xp0_6 := XP0_5.out.below b6 XP0_5.out.lt
  clear XP0_5
  have xp1_6 := XP1_5.out.below b6 XP1_5.out.lt
  clear XP1_5
  have xv4_6 := XV4_5.out.below b6 XV4_5.out.lt
  clear XV4_5
  have cp0_0 : w6.cell? ⟨w.heap.size, 0, none⟩ = some (.int .i64 l0) := by rw [xp0_6.cell]; rfl
  have cp0_1 : w6.cell? ⟨w.heap.size, 1, none⟩ = some (.slice A0 n0 c0) := by rw [xp0_6.cell]; rfl
  have lp0 := xp0_6.lt
  have XP0_6 := Lib.hid xp0_6
  clear xp0_6
  have cp1_0 : w6.cell? ⟨w.heap.size + 1, 0, none⟩ = some (.int .i64 l1) := by rw [xp1_6.cell]; rfl
  have cp1_1 : w6.cell? ⟨w.heap.size + 1, 1, none⟩ = some (.slice A1 n1 c1) := by rw [xp1_6.cell]; rfl
  have lp1 := xp1_6.lt
  have XP1_6 := Lib.hid xp1_6
  clear xp1_6
  have cv4_0 : w6.cell? ⟨g4, 0, none⟩ = some (.int .i64 (prodL l0 xs l1 ys)) := by rw [xv4_6.cell]; rfl
  have cv4_1 : w6.cell? ⟨g4, 1, none⟩ = some (.slice B4 ((prods l0 xs l1 ys).length) d4) := by rw [xv4_6.cell]; rfl
  have lv4 := xv4_6.lt
  have XV4_6 := Lib.hid xv4_6
  clear xv4_6
  have cv6_0 : w6.cell? ⟨w5.heap.size, 0, none⟩ = some (.int .i64 l0) := by rw [xv6_6.cell]; rfl
  have cv6_1 : w6.cell? ⟨w5.heap.size, 1, none⟩ = some (.slice B5 n0 d5) := by rw [xv6_6.cell]; rfl
  have lv6 := xv6_6.lt
  have XV6_6 := Lib.hid xv6_6
  clear xv6_6
  (try go_wp2_with fail)
  (with_reducible refine (toTable_any l1 A1 n1 c1 ys _ (hr1.keep t6) Hn1.out hb1).mono ?_)
  rintro e w7 ⟨B7, d7, rfl, ox7_7, b7⟩
  have t7 := t6.trans (b7.mono t6.size)
  have a_g4_x7 := Lib.hid (own_apart og4_6 ox7_7 (Nat.le_refl _))
  have a_x7_g4 := Lib.hid (own_apart' ox7_7 og4_6 (Nat.le_refl _))
  have a_x5_x7 := Lib.hid (own_apart ox5_6 ox7_7 (Nat.le_refl _))
  have a_x7_x5 := Lib.hid (own_apart' ox7_7 ox5_6 (Nat.le_refl _))
  clear lp0 cp0_0 cp0_1
  clear lp1 cp1_0 cp1_1
  clear lv4 cv4_0 cv4_1
  clear lv6 cv6_0 cv6_1
  have og4_7 := own_keep og4_6 b7 (Nat.le_refl _)
  clear og4_6
  have ox5_7 := own_keep ox5_6 b7 (Nat.le_refl _)
  clear ox5_6
  have xp0_7 := XP0_6.out.below b7 XP0_6.out.lt
  clear XP0_6
  have xp1_7 := XP1_6.out.below b7 XP1_6.out.lt
  clear XP1_6
  have xv4_7 := XV4_6.out.below b7 XV4_6.out.lt
  clear XV4_6
  have xv6_7 := XV6_6.out.below b7 XV6_6.out.lt
  clear XV6_6
  have cp0_0 : w7.cell? ⟨w.heap.size, 0, none⟩ = some (.int .i64 l0) := by rw [xp0_7.cell]; rfl
  have cp0_1 : w7.cell? ⟨w.heap.size, 1, none⟩ = some (.slice A0 n0 c0) := by rw [xp0_7.cell]; rfl
  have lp0 := xp0_7.lt
  have XP0_7 := Lib.hid xp0_7
  clear xp0_7
  have cp1_0 : w7.cell? ⟨w.heap.size + 1, 0, none⟩ = some (.int .i64 l1) := by rw [xp1_7.cell]; rfl
  have cp1_1 : w7.cell? ⟨w.heap.size + 1, 1, none⟩ = some (.slice A1 n1 c1) := by rw [xp1_7.cell]; rfl
  have lp1 := xp1_7.lt
  have XP1_7 := Lib.hid xp1_7
  clear xp1_7
  have cv4_0 : w7.cell? ⟨g4, 0, none⟩ = some (.int .i64 (prodL l0 xs l1 ys)) := by rw [xv4_7.cell]; rfl
  have cv4_1 : w7.cell? ⟨g4, 1, none⟩ = some (.slice B4 ((prods l0 xs l1 ys).length) d4) := by rw [xv4_7.cell]; rfl
  have lv4 := xv4_7.lt
  have XV4_7 := Lib.hid xv4_7
  clear xv4_7
  have cv6_0 : w7.cell? ⟨w5.heap.size, 0, none⟩ = some (.int .i64 l0) := by rw [xv6_7.cell]; rfl
  have cv6_1 : w7.cell? ⟨w5.heap.size, 1, none⟩ = some (.slice B5 n0 d5) := by rw [xv6_7.cell]; rfl
  have lv6 := xv6_7.lt
  have XV6_7 := Lib.hid xv6_7
  clear xv6_7
  go_wp2_with fail
  generalize hq : w7.alloc (.cells #[.int .i64 l1, .slice B7 n1 d7] 26) = w8
  have b8 : Below w7.heap.size w7 w8 := by rw [← hq]; exact (Below.refl _ _).alloc (Nat.le_refl _) _
  have t8 := t7.trans (b8.mono t7.size)
  have xv8_8 : Bk w8 w7.heap.size 26 #[.int .i64 l1, .slice B7 n1 d7] := by rw [← hq]; exact Bk.new _ _ _
  clear hq
  clear lp0 cp0_0 cp0_1
  clear lp1 cp1_0 cp1_1
  clear lv4 cv4_0 cv4_1
  clear lv6 cv6_0 cv6_1
  have og4_8 := own_keep og4_7 b8 (Nat.le_refl _)
  clear og4_7
  have ox5_8 := own_keep ox5_7 b8 (Nat.le_refl _)
  clear ox5_7
  have ox7_8 := own_keep ox7_7 b8 (Nat.le_refl _)
  clear ox7_7
  have xp0_8 := XP0_7.out.below b8 XP0_7.out.lt
  clear XP0_7
  have xp1_8 := XP1_7.out.below b8 XP1_7.out.lt
  clear XP1_7
  have xv4_8 := XV4_7.out.below b8 XV4_7.out.lt
  clear XV4_7
  have xv6_8 := XV6_7.out.below b8 XV6_7.out.lt
  clear XV6_7
  have cp0_0 : w8.cell? ⟨w.heap.size, 0, none⟩ = some (.int .i64 l0) := by rw [xp0_8.cell]; rfl
  have cp0_1 : w8.cell? ⟨w.heap.size, 1, none⟩ = some (.slice A0 n0 c0) := by rw [xp0_8.cell]; rfl
  have lp0 := xp0_8.lt
  have XP0_8 := Lib.hid xp0_8
  clear xp0_8
  have cp1_0 : w8.cell? ⟨w.heap.size + 1, 0, none⟩ = some (.int .i64 l1) := by rw [xp1_8.cell]; rfl
  have cp1_1 : w8.cell? ⟨w.heap.size + 1, 1, none⟩ = some (.slice A1 n1 c1) := by rw [xp1_8.cell]; rfl
  have lp1 := xp1_8.lt
  have XP1_8 := Lib.hid xp1_8
  clear xp1_8
  have cv4_0 : w8.cell? ⟨g4, 0, none⟩ = some (.int .i64 (prodL l0 xs l1 ys)) := by rw [xv4_8.cell]; rfl
  have cv4_1 : w8.cell? ⟨g4, 1, none⟩ = some (.slice B4 ((prods l0 xs l1 ys).length) d4) := by rw [xv4_8.cell]; rfl
  have lv4 := xv4_8.lt
  have XV4_8 := Lib.hid xv4_8
  clear xv4_8
  have cv6_0 : w8.cell? ⟨w5.heap.size, 0, none⟩ = some (.int .i64 l0) := by rw [xv6_8.cell]; rfl
  have cv6_1 : w8.cell? ⟨w5.heap.size, 1, none⟩ = some (.slice B5 n0 d5) := by rw [xv6_8.cell]; rfl
  have lv6 := xv6_8.lt
  have XV6_8 := Lib.hid xv6_8
  clear xv6_8
  have cv8_0 : w8.cell? ⟨w7.heap.size, 0, none⟩ = some (.int .i64 l1) := by rw [xv8_8.cell]; rfl
  have cv8_1 : w8.cell? ⟨w7.heap.size, 1, none⟩ = some (.slice B7 n1 d7) := by rw [xv8_8.cell]; rfl
  have lv8 := xv8_8.lt
  have XV8_8 := Lib.hid xv8_8
  clear xv8_8
  (try go_wp2_with fail)
  (with_reducible refine (implProductTable_any l0 B5 n0 d5 xs l1 B7 n1 d7 ys _ (Rd.of_own ox5_8) Hn0.out hb0 (Rd.of_own ox7_8) Hn1.out hb1).mono ?_)
  rintro e w9 ⟨B9, d9, rfl, og9_9, b9⟩
  have t9 := t8.trans (b9.mono t8.size)
  have a_g4_g9 := Lib.hid (own_apart og4_8 og9_9 (Nat.le_refl _))
  have a_g9_g4 := Lib.hid (own_apart' og9_9 og4_8 (Nat.le_refl _))
  have a_x5_g9 := Lib.hid (own_apart ox5_8 og9_9 (Nat.le_refl _))
  have a_g9_x5 := Lib.hid (own_apart' og9_9 ox5_8 (Nat.le_refl _))
  have a_x7_g9 := Lib.hid (own_apart ox7_8 og9_9 (Nat.le_refl _))
  have a_g9_x7 := Lib.hid (own_apart' og9_9 ox7_8 (Nat.le_refl _))
  clear lp0 cp0_0 cp0_1
  clear lp1 cp1_0 cp1_1
  clear lv4 cv4_0 cv4_1
  clear lv6 cv6_0 cv6_1
  clear lv8 cv8_0 cv8_1
  have og4_9 := own_keep og4_8 b9 (Nat.le_refl _)
  clear og4_8
  have ox5_9 := own_keep ox5_8 b9 (Nat.le_refl _)
  clear ox5_8
  have ox7_9 := own_keep ox7_8 b9 (Nat.le_refl _)
  clear ox7_8
  have xp0_9 := XP0_8.out.below b9 XP0_8.out.lt
  clear XP0_8
  have xp1_9 := XP1_8.out.below b9 XP1_8.out.lt
  clear XP1_8
  have xv4_9 := XV4_8.out.below b9 XV4_8.out.lt
  clear XV4_8
  have xv6_9 := XV6_8.out.below b9 XV6_8.out.lt
  clear XV6_8
  have xv8_9 := XV8_8.out.below b9 XV8_8.out.lt
  clear XV8_8
  have cp0_0 : w9.cell? ⟨w.heap.size, 0, none⟩ = some (.int .i64 l0) := by rw [xp0_9.cell]; rfl
  have cp0_1 : w9.cell? ⟨w.heap.size, 1, none⟩ = some (.slice A0 n0 c0) := by rw [xp0_9.cell]; rfl
  have lp0 := xp0_9.lt
  have XP0_9 := Lib.hid xp0_9
  clear xp0_9
  have cp1_0 : w9.cell? ⟨w.heap.size + 1, 0, none⟩ = some (.int .i64 l1) := by rw [xp1_9.cell]; rfl
  have cp1_1 : w9.cell? ⟨w.heap.size + 1, 1, none⟩ = some (.slice A1 n1 c1) := by rw [xp1_9.cell]; rfl
  have lp1 := xp1_9.lt
  have XP1_9 := Lib.hid xp1_9
  clear xp1_9
  have cv4_0 : w9.cell? ⟨g4, 0, none⟩ = some (.int .i64 (prodL l0 xs l1 ys)) := by rw [xv4_9.cell]; rfl
  have cv4_1 : w9.cell? ⟨g4, 1, none⟩ = some (.slice B4 ((prods l0 xs l1 ys).length) d4) := by rw [xv4_9.cell]; rfl
  have lv4 := xv4_9.lt
  have XV4_9 := Lib.hid xv4_9
  clear xv4_9
  have cv6_0 : w9.cell? ⟨w5.heap.size, 0, none⟩ = some (.int .i64 l0) := by rw [xv6_9.cell]; rfl
  have cv6_1 : w9.cell? ⟨w5.heap.size, 1, none⟩ = some (.slice B5 n0 d5) := by rw [xv6_9.cell]; rfl
  have lv6 := xv6_9.lt
  have XV6_9 := Lib.hid xv6_9
  clear xv6_9
  have cv8_0 : w9.cell? ⟨w7.heap.size, 0, none⟩ = some (.int .i64 l1) := by rw [xv8_9.cell]; rfl
  have cv8_1 : w9.cell? ⟨w7.heap.size, 1, none⟩ = some (.slice B7 n1 d7) := by rw [xv8_9.cell]; rfl
  have lv8 := xv8_9.lt
  have XV8_9 := Lib.hid xv8_9
  clear xv8_9
  go_wp2_with fail
  generalize hq : w9.alloc (.cells #[.int .i64 (prodL l0 xs l1 ys), .slice B9 ((prods l0 xs l1 ys).length) d9] 26) = w10
  have b10 : Below w9.heap.size w9 w10 := by rw [← hq]; exact (Below.refl _ _).alloc (Nat.le_refl _) _
  have t10 := t9.trans (b10.mono t9.size)
  have xv10_10 : Bk w10 w9.heap.size 26 #[.int .i64 (prodL l0 xs l1 ys), .slice B9 ((prods l0 xs l1 ys).length) d9] := by rw [← hq]; exact Bk.new _ _ _
  clear hq
  clear lp0 cp0_0 cp0_1
  clear lp1 cp1_0 cp1_1
  clear lv4 cv4_0 cv4_1
  clear lv6 cv6_0 cv6_1
  clear lv8 cv8_0 cv8_1
  have og4_10 := own_keep og4_9 b10 (Nat.le_refl _)
  clear og4_9
  have ox5_10 := own_keep ox5_9 b10 (Nat.le_refl _)
  clear ox5_9
  have ox7_10 := own_keep ox7_9 b10 (Nat.le_refl _)
  clear ox7_9
  have og9_10 := own_keep og9_9 b10 (Nat.le_refl _)
  clear og9_9
  have xp0_10 := XP0_9.out.below b10 XP0_9.out.lt
  clear XP0_9
  have xp1_10 := XP1_9.out.below b10 XP1_9.out.lt
  clear XP1_9
  have xv4_10 := XV4_9.out.below b10 XV4_9.out.lt
  clear XV4_9
  have xv6_10 := XV6_9.out.below b10 XV6_9.out.lt
  clear XV6_9
  have xv8_10 := XV8_9.out.below b10 XV8_9.out.lt
  clear XV8_9
  have cp0_0 : w10.cell? ⟨w.heap.size, 0, none⟩ = some (.int .i64 l0) := by rw [xp0_10.cell]; rfl
  have cp0_1 : w10.cell? ⟨w.heap.size, 1, none⟩ = some (.slice A0 n0 c0) := by rw [xp0_10.cell]; rfl
  have lp0 := xp0_10.lt
  have XP0_10 := Lib.hid xp0_10
  clear xp0_10
  have cp1_0 : w10.cell? ⟨w.heap.size + 1, 0, none⟩ = some (.int .i64 l1) := by rw [xp1_10.cell]; rfl
  have cp1_1 : w10.cell? ⟨w.heap.size + 1, 1, none⟩ = some (.slice A1 n1 c1) := by rw [xp1_10.cell]; rfl
  have lp1 := xp1_10.lt
  have XP1_10 := Lib.hid xp1_10
  clear xp1_10
  have cv4_0 : w10.cell? ⟨g4, 0, none⟩ = some (.int .i64 (prodL l0 xs l1 ys)) := by rw [xv4_10.cell]; rfl
  have cv4_1 : w10.cell? ⟨g4, 1, none⟩ = some (.slice B4 ((prods l0 xs l1 ys).length) d4) := by rw [xv4_10.cell]; rfl
  have lv4 := xv4_10.lt
  have XV4_10 := Lib.hid xv4_10
  clear xv4_10
  have cv6_0 : w10.cell? ⟨w5.heap.size, 0, none⟩ = some (.int .i64 l0) := by rw [xv6_10.cell]; rfl
  have cv6_1 : w10.cell? ⟨w5.heap.size, 1, none⟩ = some (.slice B5 n0 d5) := by rw [xv6_10.cell]; rfl
  have lv6 := xv6_10.lt
  have XV6_10 := Lib.hid xv6_10
  clear xv6_10
  have cv8_0 : w10.cell? ⟨w7.heap.size, 0, none⟩ = some (.int .i64 l1) := by rw [xv8_10.cell]; rfl
  have cv8_1 : w10.cell? ⟨w7.heap.size, 1, none⟩ = some (.slice B7 n1 d7) := by rw [xv8_10.cell]; rfl
  have lv8 := xv8_10.lt
  have XV8_10 := Lib.hid xv8_10
  clear xv8_10
  have cv10_0 : w10.cell? ⟨w9.heap.size, 0, none⟩ = some (.int .i64 (prodL l0 xs l1 ys)) := by rw [xv10_10.cell]; rfl
  have cv10_1 : w10.cell? ⟨w9.heap.size, 1, none⟩ = some (.slice B9 ((prods l0 xs l1 ys).length) d9) := by rw [xv10_10.cell]; rfl
  have lv10 := xv10_10.lt
  have XV10_10 := Lib.hid xv10_10
  clear xv10_10
  (try go_wp2_with fail)
  (with_reducible refine (eqTable_k (prodL l0 xs l1 ys) B9 ((prods l0 xs l1 ys).length) d9 (prods l0 xs l1 ys) (prodL l0 xs l1 ys)  B4 ((prods l0 xs l1 ys).length) d4 (prods l0 xs l1 ys) _ (Rd.of_own og9_10) rfl (le_big (prods_len l0 xs l1 ys)) (Rd.of_own og4_10) rfl (le_big (prods_len l0 xs l1 ys))).mono ?_)
  rintro e w11 ⟨rfl, b11⟩
  have t11 := t10.trans (b11.mono t10.size)
  clear lp0 cp0_0 cp0_1
  clear lp1 cp1_0 cp1_1
  clear lv4 cv4_0 cv4_1
  clear lv6 cv6_0 cv6_1
  clear lv8 cv8_0 cv8_1
  clear lv10 cv10_0 cv10_1
  have og4_11 := own_keep og4_10 b11 (Nat.le_refl _)
  clear og4_10
  have ox5_11 := own_keep ox5_10 b11 (Nat.le_refl _)
  clear ox5_10
  have ox7_11 := own_keep ox7_10 b11 (Nat.le_refl _)
  clear ox7_10
  have og9_11 := own_keep og9_10 b11 (Nat.le_refl _)
  clear og9_10
  have xp0_11 := XP0_10.out.below b11 XP0_10.out.lt
  clear XP0_10
  have xp1_11 := XP1_10.out.below b11 XP1_10.out.lt
  clear XP1_10
  have xv4_11 := XV4_10.out.below b11 XV4_10.out.lt
  clear XV4_10
  have xv6_11 := XV6_10.out.below b11 XV6_10.out.lt
  clear XV6_10
  have xv8_11 := XV8_10.out.below b11 XV8_10.out.lt
  clear XV8_10
  have xv10_11 := XV10_10.out.below b11 XV10_10.out.lt
  clear XV10_10
  have cp0_0 : w11.cell? ⟨w.heap.size, 0, none⟩ = some (.int .i64 l0) := by rw [xp0_11.cell]; rfl
  have cp0_1 : w11.cell? ⟨w.heap.size, 1, none⟩ = some (.slice A0 n0 c0) := by rw [xp0_11.cell]; rfl
  have lp0 := xp0_11.lt
  have XP0_11 := Lib.hid xp0_11
  clear xp0_11
  have cp1_0 : w11.cell? ⟨w.heap.size + 1, 0, none⟩ = some (.int .i64 l1) := by rw [xp1_11.cell]; rfl
  have cp1_1 : w11.cell? ⟨w.heap.size + 1, 1, none⟩ = some (.slice A1 n1 c1) := by rw [xp1_11.cell]; rfl
  have lp1 := xp1_11.lt
  have XP1_11 := Lib.hid xp1_11
  clear xp1_11
  have cv4_0 : w11.cell? ⟨g4, 0, none⟩ = some (.int .i64 (prodL l0 xs l1 ys)) := by rw [xv4_11.cell]; rfl
  have cv4_1 : w11.cell? ⟨g4, 1, none⟩ = some (.slice B4 ((prods l0 xs l1 ys).length) d4) := by rw [xv4_11.cell]; rfl
  have lv4 := xv4_11.lt
  have XV4_11 := Lib.hid xv4_11
  clear xv4_11
  have cv6_0 : w11.cell? ⟨w5.heap.size, 0, none⟩ = some (.int .i64 l0) := by rw [xv6_11.cell]; rfl
  have cv6_1 : w11.cell? ⟨w5.heap.size, 1, none⟩ = some (.slice B5 n0 d5) := by rw [xv6_11.cell]; rfl
  have lv6 := xv6_11.lt
  have XV6_11 := Lib.hid xv6_11
  clear xv6_11
  have cv8_0 : w11.cell? ⟨w7.heap.size, 0, none⟩ = some (.int .i64 l1) := by rw [xv8_11.cell]; rfl
  have cv8_1 : w11.cell? ⟨w7.heap.size, 1, none⟩ = some (.slice B7 n1 d7) := by rw [xv8_11.cell]; rfl
  have lv8 := xv8_11.lt
  have XV8_11 := Lib.hid xv8_11
  clear xv8_11
  have cv10_0 : w11.cell? ⟨w9.heap.size, 0, none⟩ = some (.int .i64 (prodL l0 xs l1 ys)) := by rw [xv10_11.cell]; rfl
  have cv10_1 : w11.cell? ⟨w9.heap.size, 1, none⟩ = some (.slice B9 ((prods l0 xs l1 ys).length) d9) := by rw [xv10_11.cell]; rfl
  have lv10 := xv10_11.lt
  have XV10_11 := Lib.hid xv10_11
  clear xv10_11
  go_wp2_with fail
  have eS : ∀ w', Below w11.drew.heap.size w11.drew w' → w'.cell? ⟨w.heap.size, 0, none⟩ = some (.int .i64 l0) ∧ w'.cell? ⟨w.heap.size, 1, none⟩ = some (.slice A0 n0 c0) ∧ w'.cell? ⟨w.heap.size + 1, 0, none⟩ = some (.int .i64 l1) ∧ w'.cell? ⟨w.heap.size + 1, 1, none⟩ = some (.slice A1 n1 c1) ∧ w'.cell? ⟨g4, 0, none⟩ = some (.int .i64 (prodL l0 xs l1 ys)) ∧ w'.cell? ⟨g4, 1, none⟩ = some (.slice B4 ((prods l0 xs l1 ys).length) d4) ∧ w'.cell? ⟨w5.heap.size, 0, none⟩ = some (.int .i64 l0) ∧ w'.cell? ⟨w5.heap.size, 1, none⟩ = some (.slice B5 n0 d5) ∧ w'.cell? ⟨w7.heap.size, 0, none⟩ = some (.int .i64 l1) ∧ w'.cell? ⟨w7.heap.size, 1, none⟩ = some (.slice B7 n1 d7) ∧ w'.cell? ⟨w9.heap.size, 0, none⟩ = some (.int .i64 (prodL l0 xs l1 ys)) ∧ w'.cell? ⟨w9.heap.size, 1, none⟩ = some (.slice B9 ((prods l0 xs l1 ys).length) d9) := fun w' hb => ⟨(hb.cell (p := ⟨w.heap.size, 0, none⟩) XP0_11.out.lt).trans cp0_0, (hb.cell (p := ⟨w.heap.size, 1, none⟩) XP0_11.out.lt).trans cp0_1, (hb.cell (p := ⟨w.heap.size + 1, 0, none⟩) XP1_11.out.lt).trans cp1_0, (hb.cell (p := ⟨w.heap.size + 1, 1, none⟩) XP1_11.out.lt).trans cp1_1, (hb.cell (p := ⟨g4, 0, none⟩) XV4_11.out.lt).trans cv4_0, (hb.cell (p := ⟨g4, 1, none⟩) XV4_11.out.lt).trans cv4_1, (hb.cell (p := ⟨w5.heap.size, 0, none⟩) XV6_11.out.lt).trans cv6_0, (hb.cell (p := ⟨w5.heap.size, 1, none⟩) XV6_11.out.lt).trans cv6_1, (hb.cell (p := ⟨w7.heap.size, 0, none⟩) XV8_11.out.lt).trans cv8_0, (hb.cell (p := ⟨w7.heap.size, 1, none⟩) XV8_11.out.lt).trans cv8_1, (hb.cell (p := ⟨w9.heap.size, 0, none⟩) XV10_11.out.lt).trans cv10_0, (hb.cell (p := ⟨w9.heap.size, 1, none⟩) XV10_11.out.lt).trans cv10_1⟩
  have zS := eS _ (Below.refl _ _)
  have ES := Lib.hid eS
  clear eS
  have ZS := Lib.hid zS
  clear zS
  go_region_held3 (fun w' => w'.cell? ⟨w.heap.size, 0, none⟩ = some (.int .i64 l0) ∧ w'.cell? ⟨w.heap.size, 1, none⟩ = some (.slice A0 n0 c0) ∧ w'.cell? ⟨w.heap.size + 1, 0, none⟩ = some (.int .i64 l1) ∧ w'.cell? ⟨w.heap.size + 1, 1, none⟩ = some (.slice A1 n1 c1) ∧ w'.cell? ⟨g4, 0, none⟩ = some (.int .i64 (prodL l0 xs l1 ys)) ∧ w'.cell? ⟨g4, 1, none⟩ = some (.slice B4 ((prods l0 xs l1 ys).length) d4) ∧ w'.cell? ⟨w5.heap.size, 0, none⟩ = some (.int .i64 l0) ∧ w'.cell? ⟨w5.heap.size, 1, none⟩ = some (.slice B5 n0 d5) ∧ w'.cell? ⟨w7.heap.size, 0, none⟩ = some (.int .i64 l1) ∧ w'.cell? ⟨w7.heap.size, 1, none⟩ = some (.slice B7 n1 d7) ∧ w'.cell? ⟨w9.heap.size, 0, none⟩ = some (.int .i64 (prodL l0 xs l1 ys)) ∧ w'.cell? ⟨w9.heap.size, 1, none⟩ = some (.slice B9 ((prods l0 xs l1 ys).length) d9)) (first | exact ZS.out | assumption) ((first | ((with_reducible refine (toTable_any l0 A0 n0 c0 xs _ (Rd.drew (hr0.keep t11)) Hn0.out hb0).mono ?_); rintro e y11 ⟨B12, d12, rfl, oy11, hU1⟩; have hS1 := ES.out _ hU1; have oz11 := own_keep (w := w11.drew) ox5_11 hU1 (Nat.le_refl _)) | ((with_reducible refine (eqTable_k l0 B5 n0 d5 xs l0 B12 n0 d12 xs _ (Rd.of_own oz11) Hn0.out (le_big hb0) (Rd.of_own oy11) Hn0.out (le_big hb0)).mono ?_); rintro e w12 ⟨rfl, hU2⟩; have hU3 := hU1.trans (hU2.mono hU1.size); have hS2 := ES.out _ hU3)))
  have b12 : Below w11.heap.size w11 w12 := ((Below.refl _ _).drew).trans hU3
  have t12 := t11.trans (b12.mono t11.size)
  clear hU1 hU2 hU3 hS1 hS2 ES ZS oy11 oz11
  clear lp0 cp0_0 cp0_1
  clear lp1 cp1_0 cp1_1
  clear lv4 cv4_0 cv4_1
  clear lv6 cv6_0 cv6_1
  clear lv8 cv8_0 cv8_1
  clear lv10 cv10_0 cv10_1
  have og4_12 := own_keep og4_11 b12 (Nat.le_refl _)
  clear og4_11
  have ox5_12 := own_keep ox5_11 b12 (Nat.le_refl _)
  clear ox5_11
  have ox7_12 := own_keep ox7_11 b12 (Nat.le_refl _)
  clear ox7_11
  have og9_12 := own_keep og9_11 b12 (Nat.le_refl _)
  clear og9_11
  have xp0_12 := XP0_11.out.below b12 XP0_11.out.lt
  clear XP0_11
  have xp1_12 := XP1_11.out.below b12 XP1_11.out.lt
  clear XP1_11
  have xv4_12 := XV4_11.out.below b12 XV4_11.out.lt
  clear XV4_11
  have xv6_12 := XV6_11.out.below b12 XV6_11.out.lt
  clear XV6_11
  have xv8_12 := XV8_11.out.below b12 XV8_11.out.lt
  clear XV8_11
  have xv10_12 := XV10_11.out.below b12 XV10_11.out.lt
  clear XV10_11
  have cp0_0 : w12.cell? ⟨w.heap.size, 0, none⟩ = some (.int .i64 l0) := by rw [xp0_12.cell]; rfl
  have cp0_1 : w12.cell? ⟨w.heap.size, 1, none⟩ = some (.slice A0 n0 c0) := by rw [xp0_12.cell]; rfl
  have lp0 := xp0_12.lt
  have XP0_12 := Lib.hid xp0_12
  clear xp0_12
  have cp1_0 : w12.cell? ⟨w.heap.size + 1, 0, none⟩ = some (.int .i64 l1) := by rw [xp1_12.cell]; rfl
  have cp1_1 : w12.cell? ⟨w.heap.size + 1, 1, none⟩ = some (.slice A1 n1 c1) := by rw [xp1_12.cell]; rfl
  have lp1 := xp1_12.lt
  have XP1_12 := Lib.hid xp1_12
  clear xp1_12
  have cv4_0 : w12.cell? ⟨g4, 0, none⟩ = some (.int .i64 (prodL l0 xs l1 ys)) := by rw [xv4_12.cell]; rfl
  have cv4_1 : w12.cell? ⟨g4, 1, none⟩ = some (.slice B4 ((prods l0 xs l1 ys).length) d4) := by rw [xv4_12.cell]; rfl
  have lv4 := xv4_12.lt
  have XV4_12 := Lib.hid xv4_12
  clear xv4_12
  have cv6_0 : w12.cell? ⟨w5.heap.size, 0, none⟩ = some (.int .i64 l0) := by rw [xv6_12.cell]; rfl
  have cv6_1 : w12.cell? ⟨w5.heap.size, 1, none⟩ = some (.slice B5 n0 d5) := by rw [xv6_12.cell]; rfl
  have lv6 := xv6_12.lt
  have XV6_12 := Lib.hid xv6_12
  clear xv6_12
  have cv8_0 : w12.cell? ⟨w7.heap.size, 0, none⟩ = some (.int .i64 l1) := by rw [xv8_12.cell]; rfl
  have cv8_1 : w12.cell? ⟨w7.heap.size, 1, none⟩ = some (.slice B7 n1 d7) := by rw [xv8_12.cell]; rfl
  have lv8 := xv8_12.lt
  have XV8_12 := Lib.hid xv8_12
  clear xv8_12
  have cv10_0 : w12.cell? ⟨w9.heap.size, 0, none⟩ = some (.int .i64 (prodL l0 xs l1 ys)) := by rw [xv10_12.cell]; rfl
  have cv10_1 : w12.cell? ⟨w9.heap.size, 1, none⟩ = some (.slice B9 ((prods l0 xs l1 ys).length) d9) := by rw [xv10_12.cell]; rfl
  have lv10 := xv10_12.lt
  have XV10_12 := Lib.hid xv10_12
  clear xv10_12
  go_wp2_with fail
  have eS : ∀ w', Below w12.drew.heap.size w12.drew w' → w'.cell? ⟨w.heap.size, 0, none⟩ = some (.int .i64 l0) ∧ w'.cell? ⟨w.heap.size, 1, none⟩ = some (.slice A0 n0 c0) ∧ w'.cell? ⟨w.heap.size + 1, 0, none⟩ = some (.int .i64 l1) ∧ w'.cell? ⟨w.heap.size + 1, 1, none⟩ = some (.slice A1 n1 c1) ∧ w'.cell? ⟨g4, 0, none⟩ = some (.int .i64 (prodL l0 xs l1 ys)) ∧ w'.cell? ⟨g4, 1, none⟩ = some (.slice B4 ((prods l0 xs l1 ys).length) d4) ∧ w'.cell? ⟨w5.heap.size, 0, none⟩ = some (.int .i64 l0) ∧ w'.cell? ⟨w5.heap.size, 1, none⟩ = some (.slice B5 n0 d5) ∧ w'.cell? ⟨w7.heap.size, 0, none⟩ = some (.int .i64 l1) ∧ w'.cell? ⟨w7.heap.size, 1, none⟩ = some (.slice B7 n1 d7) ∧ w'.cell? ⟨w9.heap.size, 0, none⟩ = some (.int .i64 (prodL l0 xs l1 ys)) ∧ w'.cell? ⟨w9.heap.size, 1, none⟩ = some (.slice B9 ((prods l0 xs l1 ys).length) d9) := fun w' hb => ⟨(hb.cell (p := ⟨w.heap.size, 0, none⟩) XP0_12.out.lt).trans cp0_0, (hb.cell (p := ⟨w.heap.size, 1, none⟩) XP0_12.out.lt).trans cp0_1, (hb.cell (p := ⟨w.heap.size + 1, 0, none⟩) XP1_12.out.lt).trans cp1_0, (hb.cell (p := ⟨w.heap.size + 1, 1, none⟩) XP1_12.out.lt).trans cp1_1, (hb.cell (p := ⟨g4, 0, none⟩) XV4_12.out.lt).trans cv4_0, (hb.cell (p := ⟨g4, 1, none⟩) XV4_12.out.lt).trans cv4_1, (hb.cell (p := ⟨w5.heap.size, 0, none⟩) XV6_12.out.lt).trans cv6_0, (hb.cell (p := ⟨w5.heap.size, 1, none⟩) XV6_12.out.lt).trans cv6_1, (hb.cell (p := ⟨w7.heap.size, 0, none⟩) XV8_12.out.lt).trans cv8_0, (hb.cell (p := ⟨w7.heap.size, 1, none⟩) XV8_12.out.lt).trans cv8_1, (hb.cell (p := ⟨w9.heap.size, 0, none⟩) XV10_12.out.lt).trans cv10_0, (hb.cell (p := ⟨w9.heap.size, 1, none⟩) XV10_12.out.lt).trans cv10_1⟩
  have zS := eS _ (Below.refl _ _)
  have ES := Lib.hid eS
  clear eS
  have ZS := Lib.hid zS
  clear zS
  go_region_held3 (fun w' => w'.cell? ⟨w.heap.size, 0, none⟩ = some (.int .i64 l0) ∧ w'.cell? ⟨w.heap.size, 1, none⟩ = some (.slice A0 n0 c0) ∧ w'.cell? ⟨w.heap.size + 1, 0, none⟩ = some (.int .i64 l1) ∧ w'.cell? ⟨w.heap.size + 1, 1, none⟩ = some (.slice A1 n1 c1) ∧ w'.cell? ⟨g4, 0, none⟩ = some (.int .i64 (prodL l0 xs l1 ys)) ∧ w'.cell? ⟨g4, 1, none⟩ = some (.slice B4 ((prods l0 xs l1 ys).length) d4) ∧ w'.cell? ⟨w5.heap.size, 0, none⟩ = some (.int .i64 l0) ∧ w'.cell? ⟨w5.heap.size, 1, none⟩ = some (.slice B5 n0 d5) ∧ w'.cell? ⟨w7.heap.size, 0, none⟩ = some (.int .i64 l1) ∧ w'.cell? ⟨w7.heap.size, 1, none⟩ = some (.slice B7 n1 d7) ∧ w'.cell? ⟨w9.heap.size, 0, none⟩ = some (.int .i64 (prodL l0 xs l1 ys)) ∧ w'.cell? ⟨w9.heap.size, 1, none⟩ = some (.slice B9 ((prods l0 xs l1 ys).length) d9)) (first | exact ZS.out | assumption) ((first | ((with_reducible refine (toTable_any l1 A1 n1 c1 ys _ (Rd.drew (hr1.keep t12)) Hn1.out hb1).mono ?_); rintro e y12 ⟨B13, d13, rfl, oy12, hU1⟩; have hS1 := ES.out _ hU1; have oz12 := own_keep (w := w12.drew) ox7_12 hU1 (Nat.le_refl _)) | ((with_reducible refine (eqTable_k l1 B7 n1 d7 ys l1 B13 n1 d13 ys _ (Rd.of_own oz12) Hn1.out (le_big hb1) (Rd.of_own oy12) Hn1.out (le_big hb1)).mono ?_); rintro e w13 ⟨rfl, hU2⟩; have hU3 := hU1.trans (hU2.mono hU1.size); have hS2 := ES.out _ hU3)))
  have b13 : Below w12.heap.size w12 w13 := ((Below.refl _ _).drew).trans hU3
  have t13 := t12.trans (b13.mono t12.size)
  clear hU1 hU2 hU3 hS1 hS2 ES ZS oy12 oz12
  clear lp0 cp0_0 cp0_1
  clear lp1 cp1_0 cp1_1
  clear lv4 cv4_0 cv4_1
  clear lv6 cv6_0 cv6_1
  clear lv8 cv8_0 cv8_1
  clear lv10 cv10_0 cv10_1
  have og4_13 := own_keep og4_12 b13 (Nat.le_refl _)
  clear og4_12
  have ox5_13 := own_keep ox5_12 b13 (Nat.le_refl _)
  clear ox5_12
  have ox7_13 := own_keep ox7_12 b13 (Nat.le_refl _)
  clear ox7_12
  have og9_13 := own_keep og9_12 b13 (Nat.le_refl _)
  clear og9_12
  have xp0_13 := XP0_12.out.below b13 XP0_12.out.lt
  clear XP0_12
  have xp1_13 := XP1_12.out.below b13 XP1_12.out.lt
  clear XP1_12
  have xv4_13 := XV4_12.out.below b13 XV4_12.out.lt
  clear XV4_12
  have xv6_13 := XV6_12.out.below b13 XV6_12.out.lt
  clear XV6_12
  have xv8_13 := XV8_12.out.below b13 XV8_12.out.lt
  clear XV8_12
  have xv10_13 := XV10_12.out.below b13 XV10_12.out.lt
  clear XV10_12
  have cp0_0 : w13.cell? ⟨w.heap.size, 0, none⟩ = some (.int .i64 l0) := by rw [xp0_13.cell]; rfl
  have cp0_1 : w13.cell? ⟨w.heap.size, 1, none⟩ = some (.slice A0 n0 c0) := by rw [xp0_13.cell]; rfl
  have lp0 := xp0_13.lt
  have XP0_13 := Lib.hid xp0_13
  clear xp0_13
  have cp1_0 : w13.cell? ⟨w.heap.size + 1, 0, none⟩ = some (.int .i64 l1) := by rw [xp1_13.cell]; rfl
  have cp1_1 : w13.cell? ⟨w.heap.size + 1, 1, none⟩ = some (.slice A1 n1 c1) := by rw [xp1_13.cell]; rfl
  have lp1 := xp1_13.lt
  have XP1_13 := Lib.hid xp1_13
  clear xp1_13
  have cv4_0 : w13.cell? ⟨g4, 0, none⟩ = some (.int .i64 (prodL l0 xs l1 ys)) := by rw [xv4_13.cell]; rfl
  have cv4_1 : w13.cell? ⟨g4, 1, none⟩ = some (.slice B4 ((prods l0 xs l1 ys).length) d4) := by rw [xv4_13.cell]; rfl
  have lv4 := xv4_13.lt
  have XV4_13 := Lib.hid xv4_13
  clear xv4_13
  have cv6_0 : w13.cell? ⟨w5.heap.size, 0, none⟩ = some (.int .i64 l0) := by rw [xv6_13.cell]; rfl
  have cv6_1 : w13.cell? ⟨w5.heap.size, 1, none⟩ = some (.slice B5 n0 d5) := by rw [xv6_13.cell]; rfl
  have lv6 := xv6_13.lt
  have XV6_13 := Lib.hid xv6_13
  clear xv6_13
  have cv8_0 : w13.cell? ⟨w7.heap.size, 0, none⟩ = some (.int .i64 l1) := by rw [xv8_13.cell]; rfl
  have cv8_1 : w13.cell? ⟨w7.heap.size, 1, none⟩ = some (.slice B7 n1 d7) := by rw [xv8_13.cell]; rfl
  have lv8 := xv8_13.lt
  have XV8_13 := Lib.hid xv8_13
  clear xv8_13
  have cv10_0 : w13.cell? ⟨w9.heap.size, 0, none⟩ = some (.int .i64 (prodL l0 xs l1 ys)) := by rw [xv10_13.cell]; rfl
  have cv10_1 : w13.cell? ⟨w9.heap.size, 1, none⟩ = some (.slice B9 ((prods l0 xs l1 ys).length) d9) := by rw [xv10_13.cell]; rfl
  have lv10 := xv10_13.lt
  have XV10_13 := Lib.hid xv10_13
  clear xv10_13
  go_wp2_with fail
  (with_reducible refine (markTable_any l0 B5 n0 d5 _ 1 _ _ ox5_13 (by omega) (by have := hb0; omega)).mono ?_)
  rintro e w14 ⟨rfl, ox5_14, gr14⟩
  have t14 := below_marked t13 gr14 ox5_13 t4.size
  have og4_14 := og4_13.kept gr14 a_g4_x5.out
  clear og4_13
  have ox7_14 := ox7_13.kept gr14 a_x7_x5.out
  clear ox7_13
  have og9_14 := og9_13.kept gr14 a_g9_x5.out
  clear og9_13
  clear lp0 cp0_0 cp0_1
  clear lp1 cp1_0 cp1_1
  clear lv4 cv4_0 cv4_1
  clear lv6 cv6_0 cv6_1
  clear lv8 cv8_0 cv8_1
  clear lv10 cv10_0 cv10_1
  have xp0_14 := XP0_13.out.grown gr14 (own_bk_ne ox5_13 XP0_13.out (by decide))
  clear XP0_13
  have xp1_14 := XP1_13.out.grown gr14 (own_bk_ne ox5_13 XP1_13.out (by decide))
  clear XP1_13
  have xv4_14 := XV4_13.out.grown gr14 (own_bk_ne ox5_13 XV4_13.out (by decide))
  clear XV4_13
  have xv6_14 := XV6_13.out.grown gr14 (own_bk_ne ox5_13 XV6_13.out (by decide))
  clear XV6_13
  have xv8_14 := XV8_13.out.grown gr14 (own_bk_ne ox5_13 XV8_13.out (by decide))
  clear XV8_13
  have xv10_14 := XV10_13.out.grown gr14 (own_bk_ne ox5_13 XV10_13.out (by decide))
  clear XV10_13
  have cp0_0 : w14.cell? ⟨w.heap.size, 0, none⟩ = some (.int .i64 l0) := by rw [xp0_14.cell]; rfl
  have cp0_1 : w14.cell? ⟨w.heap.size, 1, none⟩ = some (.slice A0 n0 c0) := by rw [xp0_14.cell]; rfl
  have lp0 := xp0_14.lt
  have XP0_14 := Lib.hid xp0_14
  clear xp0_14
  have cp1_0 : w14.cell? ⟨w.heap.size + 1, 0, none⟩ = some (.int .i64 l1) := by rw [xp1_14.cell]; rfl
  have cp1_1 : w14.cell? ⟨w.heap.size + 1, 1, none⟩ = some (.slice A1 n1 c1) := by rw [xp1_14.cell]; rfl
  have lp1 := xp1_14.lt
  have XP1_14 := Lib.hid xp1_14
  clear xp1_14
  have cv4_0 : w14.cell? ⟨g4, 0, none⟩ = some (.int .i64 (prodL l0 xs l1 ys)) := by rw [xv4_14.cell]; rfl
  have cv4_1 : w14.cell? ⟨g4, 1, none⟩ = some (.slice B4 ((prods l0 xs l1 ys).length) d4) := by rw [xv4_14.cell]; rfl
  have lv4 := xv4_14.lt
  have XV4_14 := Lib.hid xv4_14
  clear xv4_14
  have cv6_0 : w14.cell? ⟨w5.heap.size, 0, none⟩ = some (.int .i64 l0) := by rw [xv6_14.cell]; rfl
  have cv6_1 : w14.cell? ⟨w5.heap.size, 1, none⟩ = some (.slice B5 n0 d5) := by rw [xv6_14.cell]; rfl
  have lv6 := xv6_14.lt
  have XV6_14 := Lib.hid xv6_14
  clear xv6_14
  have cv8_0 : w14.cell? ⟨w7.heap.size, 0, none⟩ = some (.int .i64 l1) := by rw [xv8_14.cell]; rfl
  have cv8_1 : w14.cell? ⟨w7.heap.size, 1, none⟩ = some (.slice B7 n1 d7) := by rw [xv8_14.cell]; rfl
  have lv8 := xv8_14.lt
  have XV8_14 := Lib.hid xv8_14
  clear xv8_14
  have cv10_0 : w14.cell? ⟨w9.heap.size, 0, none⟩ = some (.int .i64 (prodL l0 xs l1 ys)) := by rw [xv10_14.cell]; rfl
  have cv10_1 : w14.cell? ⟨w9.heap.size, 1, none⟩ = some (.slice B9 ((prods l0 xs l1 ys).length) d9) := by rw [xv10_14.cell]; rfl
  have lv10 := xv10_14.lt
  have XV10_14 := Lib.hid xv10_14
  clear xv10_14
  clear ox5_13 gr14
  go_wp2_with fail
  (with_reducible refine (markTable_any l1 B7 n1 d7 _ (1 + ((n0 : Nat) : Int)) _ _ ox7_14 (by omega) (by have := hb1; omega)).mono ?_)
  rintro e w15 ⟨rfl, ox7_15, gr15⟩
  have t15 := below_marked t14 gr15 ox7_14 t6.size
  have og4_15 := og4_14.kept gr15 a_g4_x7.out
  clear og4_14
  have ox5_15 := ox5_14.kept gr15 a_x5_x7.out
  clear ox5_14
  have og9_15 := og9_14.kept gr15 a_g9_x7.out
  clear og9_14
  clear lp0 cp0_0 cp0_1
  clear lp1 cp1_0 cp1_1
  clear lv4 cv4_0 cv4_1
  clear lv6 cv6_0 cv6_1
  clear lv8 cv8_0 cv8_1
  clear lv10 cv10_0 cv10_1
  have xp0_15 := XP0_14.out.grown gr15 (own_bk_ne ox7_14 XP0_14.out (by decide))
  clear XP0_14
  have xp1_15 := XP1_14.out.grown gr15 (own_bk_ne ox7_14 XP1_14.out (by decide))
  clear XP1_14
  have xv4_15 := XV4_14.out.grown gr15 (own_bk_ne ox7_14 XV4_14.out (by decide))
  clear XV4_14
  have xv6_15 := XV6_14.out.grown gr15 (own_bk_ne ox7_14 XV6_14.out (by decide))
  clear XV6_14
  have xv8_15 := XV8_14.out.grown gr15 (own_bk_ne ox7_14 XV8_14.out (by decide))
  clear XV8_14
  have xv10_15 := XV10_14.out.grown gr15 (own_bk_ne ox7_14 XV10_14.out (by decide))
  clear XV10_14
  have cp0_0 : w15.cell? ⟨w.heap.size, 0, none⟩ = some (.int .i64 l0) := by rw [xp0_15.cell]; rfl
  have cp0_1 : w15.cell? ⟨w.heap.size, 1, none⟩ = some (.slice A0 n0 c0) := by rw [xp0_15.cell]; rfl
  have lp0 := xp0_15.lt
  have XP0_15 := Lib.hid xp0_15
  clear xp0_15
  have cp1_0 : w15.cell? ⟨w.heap.size + 1, 0, none⟩ = some (.int .i64 l1) := by rw [xp1_15.cell]; rfl
  have cp1_1 : w15.cell? ⟨w.heap.size + 1, 1, none⟩ = some (.slice A1 n1 c1) := by rw [xp1_15.cell]; rfl
  have lp1 := xp1_15.lt
  have XP1_15 := Lib.hid xp1_15
  clear xp1_15
  have cv4_0 : w15.cell? ⟨g4, 0, none⟩ = some (.int .i64 (prodL l0 xs l1 ys)) := by rw [xv4_15.cell]; rfl
  have cv4_1 : w15.cell? ⟨g4, 1, none⟩ = some (.slice B4 ((prods l0 xs l1 ys).length) d4) := by rw [xv4_15.cell]; rfl
  have lv4 := xv4_15.lt
  have XV4_15 := Lib.hid xv4_15
  clear xv4_15
  have cv6_0 : w15.cell? ⟨w5.heap.size, 0, none⟩ = some (.int .i64 l0) := by rw [xv6_15.cell]; rfl
  have cv6_1 : w15.cell? ⟨w5.heap.size, 1, none⟩ = some (.slice B5 n0 d5) := by rw [xv6_15.cell]; rfl
  have lv6 := xv6_15.lt
  have XV6_15 := Lib.hid xv6_15
  clear xv6_15
  have cv8_0 : w15.cell? ⟨w7.heap.size, 0, none⟩ = some (.int .i64 l1) := by rw [xv8_15.cell]; rfl
  have cv8_1 : w15.cell? ⟨w7.heap.size, 1, none⟩ = some (.slice B7 n1 d7) := by rw [xv8_15.cell]; rfl
  have lv8 := xv8_15.lt
  have XV8_15 := Lib.hid xv8_15
  clear xv8_15
  have cv10_0 : w15.cell? ⟨w9.heap.size, 0, none⟩ = some (.int .i64 (prodL l0 xs l1 ys)) := by rw [xv10_15.cell]; rfl
  have cv10_1 : w15.cell? ⟨w9.heap.size, 1, none⟩ = some (.slice B9 ((prods l0 xs l1 ys).length) d9) := by rw [xv10_15.cell]; rfl
  have lv10 := xv10_15.lt
  have XV10_15 := Lib.hid xv10_15
  clear xv10_15
  clear ox7_14 gr15
  go_wp2_with fail
  (with_reducible refine (eqTable_k (prodL l0 xs l1 ys) B9 ((prods l0 xs l1 ys).length) d9 (prods l0 xs l1 ys) (prodL l0 xs l1 ys)  B4 ((prods l0 xs l1 ys).length) d4 (prods l0 xs l1 ys) _ (Rd.of_own og9_15) rfl (le_big (prods_len l0 xs l1 ys)) (Rd.of_own og4_15) rfl (le_big (prods_len l0 xs l1 ys))).mono ?_)
  rintro e w16 ⟨rfl, b16⟩
  have t16 := t15.trans (b16.mono t15.size)
  clear lp0 cp0_0 cp0_1
  clear lp1 cp1_0 cp1_1
  clear lv4 cv4_0 cv4_1
  clear lv6 cv6_0 cv6_1
  clear lv8 cv8_0 cv8_1
  clear lv10 cv10_0 cv10_1
  have og4_16 := own_keep og4_15 b16 (Nat.le_refl _)
  clear og4_15
  have ox5_16 := own_keep ox5_15 b16 (Nat.le_refl _)
  clear ox5_15
  have ox7_16 := own_keep ox7_15 b16 (Nat.le_refl _)
  clear ox7_15
  have og9_16 := own_keep og9_15 b16 (Nat.le_refl _)
  clear og9_15
  have xp0_16 := XP0_15.out.below b16 XP0_15.out.lt
  clear XP0_15
  have xp1_16 := XP1_15.out.below b16 XP1_15.out.lt
  clear XP1_15
  have xv4_16 := XV4_15.out.below b16 XV4_15.out.lt
  clear XV4_15
  have xv6_16 := XV6_15.out.below b16 XV6_15.out.lt
  clear XV6_15
  have xv8_16 := XV8_15.out.below b16 XV8_15.out.lt
  clear XV8_15
  have xv10_16 := XV10_15.out.below b16 XV10_15.out.lt
  clear XV10_15
  have cp0_0 : w16.cell? ⟨w.heap.size, 0, none⟩ = some (.int .i64 l0) := by rw [xp0_16.cell]; rfl
  have cp0_1 : w16.cell? ⟨w.heap.size, 1, none⟩ = some (.slice A0 n0 c0) := by rw [xp0_16.cell]; rfl
  have lp0 := xp0_16.lt
  have XP0_16 := Lib.hid xp0_16
  clear xp0_16
  have cp1_0 : w16.cell? ⟨w.heap.size + 1, 0, none⟩ = some (.int .i64 l1) := by rw [xp1_16.cell]; rfl
  have cp1_1 : w16.cell? ⟨w.heap.size + 1, 1, none⟩ = some (.slice A1 n1 c1) := by rw [xp1_16.cell]; rfl
  have lp1 := xp1_16.lt
  have XP1_16 := Lib.hid xp1_16
  clear xp1_16
  have cv4_0 : w16.cell? ⟨g4, 0, none⟩ = some (.int .i64 (prodL l0 xs l1 ys)) := by rw [xv4_16.cell]; rfl
  have cv4_1 : w16.cell? ⟨g4, 1, none⟩ = some (.slice B4 ((prods l0 xs l1 ys).length) d4) := by rw [xv4_16.cell]; rfl
  have lv4 := xv4_16.lt
  have XV4_16 := Lib.hid xv4_16
  clear xv4_16
  have cv6_0 : w16.cell? ⟨w5.heap.size, 0, none⟩ = some (.int .i64 l0) := by rw [xv6_16.cell]; rfl
  have cv6_1 : w16.cell? ⟨w5.heap.size, 1, none⟩ = some (.slice B5 n0 d5) := by rw [xv6_16.cell]; rfl
  have lv6 := xv6_16.lt
  have XV6_16 := Lib.hid xv6_16
  clear xv6_16
  have cv8_0 : w16.cell? ⟨w7.heap.size, 0, none⟩ = some (.int .i64 l1) := by rw [xv8_16.cell]; rfl
  have cv8_1 : w16.cell? ⟨w7.heap.size, 1, none⟩ = some (.slice B7 n1 d7) := by rw [xv8_16.cell]; rfl
  have lv8 := xv8_16.lt
  have XV8_16 := Lib.hid xv8_16
  clear xv8_16
  have cv10_0 : w16.cell? ⟨w9.heap.size, 0, none⟩ = some (.int .i64 (prodL l0 xs l1 ys)) := by rw [xv10_16.cell]; rfl
  have cv10_1 : w16.cell? ⟨w9.heap.size, 1, none⟩ = some (.slice B9 ((prods l0 xs l1 ys).length) d9) := by rw [xv10_16.cell]; rfl
  have lv10 := xv10_16.lt
  have XV10_16 := Lib.hid xv10_16
  clear xv10_16
  go_wp2_with fail
  (with_reducible refine (markTable_any (prodL l0 xs l1 ys) B9 ((prods l0 xs l1 ys).length) d9 _ 1 _ _ og9_16 (by omega) (by have := (prods_len l0 xs l1 ys); omega)).mono ?_)
  rintro e w17 ⟨rfl, og9_17, gr17⟩
  have t17 := below_marked t16 gr17 og9_16 t8.size
  have og4_17 := og4_16.kept gr17 a_g4_g9.out
  clear og4_16
  have ox5_17 := ox5_16.kept gr17 a_x5_g9.out
  clear ox5_16
  have ox7_17 := ox7_16.kept gr17 a_x7_g9.out
  clear ox7_16
  clear lp0 cp0_0 cp0_1
  clear lp1 cp1_0 cp1_1
  clear lv4 cv4_0 cv4_1
  clear lv6 cv6_0 cv6_1
  clear lv8 cv8_0 cv8_1
  clear lv10 cv10_0 cv10_1
  have xp0_17 := XP0_16.out.grown gr17 (own_bk_ne og9_16 XP0_16.out (by decide))
  clear XP0_16
  have xp1_17 := XP1_16.out.grown gr17 (own_bk_ne og9_16 XP1_16.out (by decide))
  clear XP1_16
  have xv4_17 := XV4_16.out.grown gr17 (own_bk_ne og9_16 XV4_16.out (by decide))
  clear XV4_16
  have xv6_17 := XV6_16.out.grown gr17 (own_bk_ne og9_16 XV6_16.out (by decide))
  clear XV6_16
  have xv8_17 := XV8_16.out.grown gr17 (own_bk_ne og9_16 XV8_16.out (by decide))
  clear XV8_16
  have xv10_17 := XV10_16.out.grown gr17 (own_bk_ne og9_16 XV10_16.out (by decide))
  clear XV10_16
  have cp0_0 : w17.cell? ⟨w.heap.size, 0, none⟩ = some (.int .i64 l0) := by rw [xp0_17.cell]; rfl
  have cp0_1 : w17.cell? ⟨w.heap.size, 1, none⟩ = some (.slice A0 n0 c0) := by rw [xp0_17.cell]; rfl
  have lp0 := xp0_17.lt
  have XP0_17 := Lib.hid xp0_17
  clear xp0_17
  have cp1_0 : w17.cell? ⟨w.heap.size + 1, 0, none⟩ = some (.int .i64 l1) := by rw [xp1_17.cell]; rfl
  have cp1_1 : w17.cell? ⟨w.heap.size + 1, 1, none⟩ = some (.slice A1 n1 c1) := by rw [xp1_17.cell]; rfl
  have lp1 := xp1_17.lt
  have XP1_17 := Lib.hid xp1_17
  clear xp1_17
  have cv4_0 : w17.cell? ⟨g4, 0, none⟩ = some (.int .i64 (prodL l0 xs l1 ys)) := by rw [xv4_17.cell]; rfl
  have cv4_1 : w17.cell? ⟨g4, 1, none⟩ = some (.slice B4 ((prods l0 xs l1 ys).length) d4) := by rw [xv4_17.cell]; rfl
  have lv4 := xv4_17.lt
  have XV4_17 := Lib.hid xv4_17
  clear xv4_17
  have cv6_0 : w17.cell? ⟨w5.heap.size, 0, none⟩ = some (.int .i64 l0) := by rw [xv6_17.cell]; rfl
  have cv6_1 : w17.cell? ⟨w5.heap.size, 1, none⟩ = some (.slice B5 n0 d5) := by rw [xv6_17.cell]; rfl
  have lv6 := xv6_17.lt
  have XV6_17 := Lib.hid xv6_17
  clear xv6_17
  have cv8_0 : w17.cell? ⟨w7.heap.size, 0, none⟩ = some (.int .i64 l1) := by rw [xv8_17.cell]; rfl
  have cv8_1 : w17.cell? ⟨w7.heap.size, 1, none⟩ = some (.slice B7 n1 d7) := by rw [xv8_17.cell]; rfl
  have lv8 := xv8_17.lt
  have XV8_17 := Lib.hid xv8_17
  clear xv8_17
  have cv10_0 : w17.cell? ⟨w9.heap.size, 0, none⟩ = some (.int .i64 (prodL l0 xs l1 ys)) := by rw [xv10_17.cell]; rfl
  have cv10_1 : w17.cell? ⟨w9.heap.size, 1, none⟩ = some (.slice B9 ((prods l0 xs l1 ys).length) d9) := by rw [xv10_17.cell]; rfl
  have lv10 := xv10_17.lt
  have XV10_17 := Lib.hid xv10_17
  clear xv10_17
  clear og9_16 gr17
  go_wp2_with fail
  (with_reducible refine (heldTable_k (prodL l0 xs l1 ys) B9 ((prods l0 xs l1 ys).length) d9 1 _ (Rd.of_own og9_17) (by omega) (by have := (prods_len l0 xs l1 ys); omega)).mono ?_)
  rintro e w18 ⟨rfl, b18⟩
  have t18 := t17.trans (b18.mono t17.size)
  clear lp0 cp0_0 cp0_1
  clear lp1 cp1_0 cp1_1
  clear lv4 cv4_0 cv4_1
  clear lv6 cv6_0 cv6_1
  clear lv8 cv8_0 cv8_1
  clear lv10 cv10_0 cv10_1
  have og4_18 := own_keep og4_17 b18 (Nat.le_refl _)
  clear og4_17
  have ox5_18 := own_keep ox5_17 b18 (Nat.le_refl _)
  clear ox5_17
  have ox7_18 := own_keep ox7_17 b18 (Nat.le_refl _)
  clear ox7_17
  have og9_18 := own_keep og9_17 b18 (Nat.le_refl _)
  clear og9_17
  have xp0_18 := XP0_17.out.below b18 XP0_17.out.lt
  clear XP0_17
  have xp1_18 := XP1_17.out.below b18 XP1_17.out.lt
  clear XP1_17
  have xv4_18 := XV4_17.out.below b18 XV4_17.out.lt
  clear XV4_17
  have xv6_18 := XV6_17.out.below b18 XV6_17.out.lt
  clear XV6_17
  have xv8_18 := XV8_17.out.below b18 XV8_17.out.lt
  clear XV8_17
  have xv10_18 := XV10_17.out.below b18 XV10_17.out.lt
  clear XV10_17
  have cp0_0 : w18.cell? ⟨w.heap.size, 0, none⟩ = some (.int .i64 l0) := by rw [xp0_18.cell]; rfl
  have cp0_1 : w18.cell? ⟨w.heap.size, 1, none⟩ = some (.slice A0 n0 c0) := by rw [xp0_18.cell]; rfl
  have lp0 := xp0_18.lt
  have XP0_18 := Lib.hid xp0_18
  clear xp0_18
  have cp1_0 : w18.cell? ⟨w.heap.size + 1, 0, none⟩ = some (.int .i64 l1) := by rw [xp1_18.cell]; rfl
  have cp1_1 : w18.cell? ⟨w.heap.size + 1, 1, none⟩ = some (.slice A1 n1 c1) := by rw [xp1_18.cell]; rfl
  have lp1 := xp1_18.lt
  have XP1_18 := Lib.hid xp1_18
  clear xp1_18
  have cv4_0 : w18.cell? ⟨g4, 0, none⟩ = some (.int .i64 (prodL l0 xs l1 ys)) := by rw [xv4_18.cell]; rfl
  have cv4_1 : w18.cell? ⟨g4, 1, none⟩ = some (.slice B4 ((prods l0 xs l1 ys).length) d4) := by rw [xv4_18.cell]; rfl
  have lv4 := xv4_18.lt
  have XV4_18 := Lib.hid xv4_18
  clear xv4_18
  have cv6_0 : w18.cell? ⟨w5.heap.size, 0, none⟩ = some (.int .i64 l0) := by rw [xv6_18.cell]; rfl
  have cv6_1 : w18.cell? ⟨w5.heap.size, 1, none⟩ = some (.slice B5 n0 d5) := by rw [xv6_18.cell]; rfl
  have lv6 := xv6_18.lt
  have XV6_18 := Lib.hid xv6_18
  clear xv6_18
  have cv8_0 : w18.cell? ⟨w7.heap.size, 0, none⟩ = some (.int .i64 l1) := by rw [xv8_18.cell]; rfl
  have cv8_1 : w18.cell? ⟨w7.heap.size, 1, none⟩ = some (.slice B7 n1 d7) := by rw [xv8_18.cell]; rfl
  have lv8 := xv8_18.lt
  have XV8_18 := Lib.hid xv8_18
  clear xv8_18
  have cv10_0 : w18.cell? ⟨w9.heap.size, 0, none⟩ = some (.int .i64 (prodL l0 xs l1 ys)) := by rw [xv10_18.cell]; rfl
  have cv10_1 : w18.cell? ⟨w9.heap.size, 1, none⟩ = some (.slice B9 ((prods l0 xs l1 ys).length) d9) := by rw [xv10_18.cell]; rfl
  have lv10 := xv10_18.lt
  have XV10_18 := Lib.hid xv10_18
  clear xv10_18
  go_wp2_with fail
  have eS : ∀ w', Below w18.drew.heap.size w18.drew w' → w'.cell? ⟨w.heap.size, 0, none⟩ = some (.int .i64 l0) ∧ w'.cell? ⟨w.heap.size, 1, none⟩ = some (.slice A0 n0 c0) ∧ w'.cell? ⟨w.heap.size + 1, 0, none⟩ = some (.int .i64 l1) ∧ w'.cell? ⟨w.heap.size + 1, 1, none⟩ = some (.slice A1 n1 c1) ∧ w'.cell? ⟨g4, 0, none⟩ = some (.int .i64 (prodL l0 xs l1 ys)) ∧ w'.cell? ⟨g4, 1, none⟩ = some (.slice B4 ((prods l0 xs l1 ys).length) d4) ∧ w'.cell? ⟨w5.heap.size, 0, none⟩ = some (.int .i64 l0) ∧ w'.cell? ⟨w5.heap.size, 1, none⟩ = some (.slice B5 n0 d5) ∧ w'.cell? ⟨w7.heap.size, 0, none⟩ = some (.int .i64 l1) ∧ w'.cell? ⟨w7.heap.size, 1, none⟩ = some (.slice B7 n1 d7) ∧ w'.cell? ⟨w9.heap.size, 0, none⟩ = some (.int .i64 (prodL l0 xs l1 ys)) ∧ w'.cell? ⟨w9.heap.size, 1, none⟩ = some (.slice B9 ((prods l0 xs l1 ys).length) d9) := fun w' hb => ⟨(hb.cell (p := ⟨w.heap.size, 0, none⟩) XP0_18.out.lt).trans cp0_0, (hb.cell (p := ⟨w.heap.size, 1, none⟩) XP0_18.out.lt).trans cp0_1, (hb.cell (p := ⟨w.heap.size + 1, 0, none⟩) XP1_18.out.lt).trans cp1_0, (hb.cell (p := ⟨w.heap.size + 1, 1, none⟩) XP1_18.out.lt).trans cp1_1, (hb.cell (p := ⟨g4, 0, none⟩) XV4_18.out.lt).trans cv4_0, (hb.cell (p := ⟨g4, 1, none⟩) XV4_18.out.lt).trans cv4_1, (hb.cell (p := ⟨w5.heap.size, 0, none⟩) XV6_18.out.lt).trans cv6_0, (hb.cell (p := ⟨w5.heap.size, 1, none⟩) XV6_18.out.lt).trans cv6_1, (hb.cell (p := ⟨w7.heap.size, 0, none⟩) XV8_18.out.lt).trans cv8_0, (hb.cell (p := ⟨w7.heap.size, 1, none⟩) XV8_18.out.lt).trans cv8_1, (hb.cell (p := ⟨w9.heap.size, 0, none⟩) XV10_18.out.lt).trans cv10_0, (hb.cell (p := ⟨w9.heap.size, 1, none⟩) XV10_18.out.lt).trans cv10_1⟩
  have zS := eS _ (Below.refl _ _)
  have ES := Lib.hid eS
  clear eS
  have ZS := Lib.hid zS
  clear zS
  have td := t18.drew
  have hwd : w.heap.size ≤ (World.drew w18).heap.size := t18.size
  have hU : Below (World.drew w18).heap.size (World.drew w18) (World.drew w18) := Below.refl _ _
  have hlo : w18.heap.size ≤ (World.drew w18).heap.size := Nat.le_refl _
  go_cut [15, 16] from 17 (fun v6 v7 wr => ∃ (g : Nat) (B : Option Addr) (d : Nat), v6 = .pointer (some ⟨g, 0, none⟩) ∧ v7 = .bool (prodOk l0 xs l1 ys) ∧ w18.heap.size ≤ g ∧ Below w18.heap.size w18 wr ∧ Bk wr g 26 #[(.int .i64 (prodL l0 xs l1 ys)), (.slice B (prods l0 xs l1 ys).length d)] ∧ wr.ownsRow w18.heap.size 3 1 (.slice B (prods l0 xs l1 ys).length d) (prods l0 xs l1 ys).length (ints (prods l0 xs l1 ys)))
  case first =>
    refine wp_region_held_drew (S := (fun W => W.cell? ⟨w.heap.size, 0, none⟩ = some (.int .i64 l0) ∧ W.cell? ⟨w.heap.size, 1, none⟩ = some (.slice A0 n0 c0) ∧ W.cell? ⟨w.heap.size + 1, 0, none⟩ = some (.int .i64 l1) ∧ W.cell? ⟨w.heap.size + 1, 1, none⟩ = some (.slice A1 n1 c1) ∧ W.cell? ⟨g4, 0, none⟩ = some (.int .i64 (prodL l0 xs l1 ys)) ∧ W.cell? ⟨g4, 1, none⟩ = some (.slice B4 ((prods l0 xs l1 ys).length) d4) ∧ W.cell? ⟨w5.heap.size, 0, none⟩ = some (.int .i64 l0) ∧ W.cell? ⟨w5.heap.size, 1, none⟩ = some (.slice B5 n0 d5) ∧ W.cell? ⟨w7.heap.size, 0, none⟩ = some (.int .i64 l1) ∧ W.cell? ⟨w7.heap.size, 1, none⟩ = some (.slice B7 n1 d7) ∧ W.cell? ⟨w9.heap.size, 0, none⟩ = some (.int .i64 (prodL l0 xs l1 ys)) ∧ W.cell? ⟨w9.heap.size, 1, none⟩ = some (.slice B9 ((prods l0 xs l1 ys).length) d9))) (by kernel_rfl) (ZS.out) (fun hHeld => ?_)
    refine wpAnyH_take (i := 0) (oi := ?oi1346) (v := ?val1346) ?hi1346 ?hs1346 ?hf1346 ?hr1346 ?hQ1346 ?hy1346 ?hS1346 ?hrest1346
    case hi1346 => (simp only [List.getElem?_toArray, List.getElem?_cons_succ, List.getElem?_cons_zero] <;> exact rfl)
    case hs1346 => kernel_rfl
    case hf1346 => kernel_rfl
    case hr1346 => kernel_rfl
    case hQ1346 => exact fun _ _ _ h => h
    case hS1346 => assumption
    case hy1346 => (refine Or.inl ⟨by rfl, ?_⟩; intro w hSw; (try dsimp only at hSw); (first | obtain ⟨z0, z1, z2, z3⟩ := hSw | obtain ⟨z0, z1, z2⟩ := hSw | obtain ⟨z0, z1⟩ := hSw | skip); go_simp; try with_reducible rfl)
    simp only [Act.put, List.setIfInBounds_toArray, List.set_cons_zero, List.set_cons_succ]
    refine wpAnyH_take (i := 2) (oi := ?oi1355) (v := ?val1355) ?hi1355 ?hs1355 ?hf1355 ?hr1355 ?hQ1355 ?hy1355 ?hS1355 ?hrest1355
    case hi1355 => (simp only [List.getElem?_toArray, List.getElem?_cons_succ, List.getElem?_cons_zero] <;> exact rfl)
    case hs1355 => kernel_rfl
    case hf1355 => kernel_rfl
    case hr1355 => kernel_rfl
    case hQ1355 => exact fun _ _ _ h => h
    case hS1355 => assumption
    case hy1355 => (refine Or.inl ⟨by rfl, ?_⟩; intro w hSw; (try dsimp only at hSw); (first | obtain ⟨z0, z1, z2, z3⟩ := hSw | obtain ⟨z0, z1, z2⟩ := hSw | obtain ⟨z0, z1⟩ := hSw | skip); go_simp; try with_reducible rfl)
    simp only [Act.put, List.setIfInBounds_toArray, List.set_cons_zero, List.set_cons_succ]
    refine wpAnyH_ready (rs := [1, 8]) (by kernel_rfl) (by simp) ?_
    refine AllReadyH.cons rfl (fun K hK => ?_) (AllReadyH.cons rfl (fun K hK => ?_) AllReadyH.nil)
    · skip
      go_simp
      have rr := hr0.keep (td.trans (hU.mono hwd))
      with_reducible refine (toTable_any l0 A0 n0 c0 xs _ rr Hn0.out hb0).mono ?_
      rintro e y1 ⟨C1, e1, rfl, oy1, hX⟩
      have hU := hU.trans (hX.mono hU.size)
      refine hK.out _ _ (ES.out _ hU) (fun hHeld2 => ?_)
      clear hK K hHeld
      have hHeld := hHeld2
      clear hHeld2
      first | simp only [Act.put, List.setIfInBounds_toArray, List.set_cons_zero, List.set_cons_succ] | skip
      clear hX
      refine wpAnyH_ready (rs := [3, 8]) (by kernel_rfl) (by simp) ?_
      refine AllReadyH.cons rfl (fun K hK => ?_) (AllReadyH.cons rfl (fun K hK => ?_) AllReadyH.nil)
      · skip
        go_simp
        have rr := hr1.keep (td.trans (hU.mono hwd))
        with_reducible refine (toTable_any l1 A1 n1 c1 ys _ rr Hn1.out hb1).mono ?_
        rintro e y2 ⟨C2, e2, rfl, oy2, hX⟩
        have oy1 := own_keep oy1 hX (Nat.le_refl _)
        have hU := hU.trans (hX.mono hU.size)
        refine hK.out _ _ (ES.out _ hU) (fun hHeld2 => ?_)
        clear hK K hHeld
        have hHeld := hHeld2
        clear hHeld2
        first | simp only [Act.put, List.setIfInBounds_toArray, List.set_cons_zero, List.set_cons_succ] | skip
        clear hX
        refine wpAnyH_ready (rs := [4, 8]) (by kernel_rfl) (by simp) ?_
        refine AllReadyH.cons rfl (fun K hK => ?_) (AllReadyH.cons rfl (fun K hK => ?_) AllReadyH.nil)
        · skip
          go_simp
          have hUs : w18.heap.size ≤ _ := hU.size
          with_reducible refine (implProductTable_any l0 C1 n0 e1 xs l1 C2 n1 e2 ys _ (Rd.of_own oy1) Hn0.out hb0 (Rd.of_own oy2) Hn1.out hb1).mono ?_
          rintro e y3 ⟨B, d, rfl, oM, hX⟩
          have oM := own_mono (b' := w18.heap.size) oM hUs
          have hU := hU.trans (hX.mono hU.size)
          refine hK.out _ _ (ES.out _ hU) (fun hHeld2 => ?_)
          clear hK K hHeld
          have hHeld := hHeld2
          clear hHeld2
          first | simp only [Act.put, List.setIfInBounds_toArray, List.set_cons_zero, List.set_cons_succ] | skip
          clear hX
          refine wpAnyH_take (i := 5) (oi := ?oi1408) (v := ?val1408) ?hi1408 ?hs1408 ?hf1408 ?hr1408 ?hQ1408 ?hy1408 ?hS1408 ?hrest1408
          case hi1408 => (simp only [List.getElem?_toArray, List.getElem?_cons_succ, List.getElem?_cons_zero] <;> exact rfl)
          case hs1408 => kernel_rfl
          case hf1408 => kernel_rfl
          case hr1408 => kernel_rfl
          case hQ1408 => exact fun _ _ _ h => h
          case hS1408 => assumption
          case hy1408 => (refine Or.inl ⟨by rfl, ?_⟩; intro w hSw; (try dsimp only at hSw); (first | obtain ⟨z0, z1, z2, z3⟩ := hSw | obtain ⟨z0, z1, z2⟩ := hSw | obtain ⟨z0, z1⟩ := hSw | skip); go_simp; try with_reducible rfl)
          simp only [Act.put, List.setIfInBounds_toArray, List.set_cons_zero, List.set_cons_succ]
          refine wpAnyH_take (i := 6) (oi := ?oi1417) (v := ?val1417) ?hi1417 ?hs1417 ?hf1417 ?hr1417 ?hQ1417 ?hy1417 ?hS1417 ?hrest1417
          case hi1417 => (simp only [List.getElem?_toArray, List.getElem?_cons_succ, List.getElem?_cons_zero] <;> exact rfl)
          case hs1417 => kernel_rfl
          case hf1417 => kernel_rfl
          case hr1417 => kernel_rfl
          case hQ1417 => exact fun _ _ _ h => h
          case hS1417 => assumption
          case hy1417 => (refine Or.inl ⟨by rfl, ?_⟩; intro w hSw; (try dsimp only at hSw); (first | obtain ⟨z0, z1, z2, z3⟩ := hSw | obtain ⟨z0, z1, z2⟩ := hSw | obtain ⟨z0, z1⟩ := hSw | skip); go_simp; try with_reducible rfl)
          simp only [Act.put, List.setIfInBounds_toArray, List.set_cons_zero, List.set_cons_succ]
          refine wpAnyH_take (i := 7) (oi := ?oi1426) (v := ?val1426) ?hi1426 ?hs1426 ?hf1426 ?hr1426 ?hQ1426 ?hy1426 ?hS1426 ?hrest1426
          case hi1426 => (simp only [List.getElem?_toArray, List.getElem?_cons_succ, List.getElem?_cons_zero] <;> exact rfl)
          case hs1426 => kernel_rfl
          case hf1426 => kernel_rfl
          case hr1426 => kernel_rfl
          case hQ1426 => exact fun _ _ _ h => h
          case hS1426 => assumption
          case hy1426 => (refine Or.inl ⟨by rfl, ?_⟩; intro w hSw; (try dsimp only at hSw); (first | obtain ⟨z0, z1, z2, z3⟩ := hSw | obtain ⟨z0, z1, z2⟩ := hSw | obtain ⟨z0, z1⟩ := hSw | skip); go_simp; try with_reducible rfl)
          simp only [Act.put, List.setIfInBounds_toArray, List.set_cons_zero, List.set_cons_succ]
          have hUy := hU
          have oMy := oM
          refine wpAnyH_ready (rs := [8]) (by kernel_rfl) (by simp) ?_
          refine AllReadyH.cons rfl (fun K hK => ?_) AllReadyH.nil
          go_simp
          refine hK.out _ _ (ES.out _ (hU.alloc hU.size _)) (fun hHeld2 => ?_)
          clear hK K hHeld
          have hHeld := hHeld2
          clear hHeld2
          first | simp only [Act.put, List.setIfInBounds_toArray, List.set_cons_zero, List.set_cons_succ] | skip
          have oM := own_keep oM ((Below.refl _ y3).alloc (Nat.le_refl _) (.cells #[.int .i64 0, .slice none 0 0] 26)) (Nat.le_refl _)
          have hZ := Bk.new y3 26 #[.int .i64 0, .slice none 0 0]
          have hgz : (World.drew w18).heap.size ≤ (y3).heap.size := hU.size
          have hU := hU.alloc hU.size (.cells #[.int .i64 0, .slice none 0 0] 26)
          refine wpAnyH_ready (rs := [9]) (by kernel_rfl) (by simp) ?_
          refine AllReadyH.cons rfl (fun K hK => ?_) AllReadyH.nil
          go_simp
          clear hU hZ
          have hU := hUy.alloc hUy.size (.cells #[(.int .i64 (prodL l0 xs l1 ys)), (.slice B (prods l0 xs l1 ys).length d)] 26)
          refine hK.out _ _ (ES.out _ hU) (fun hHeld2 => ?_)
          clear hK K hHeld
          have hHeld := hHeld2
          clear hHeld2
          first | simp only [Act.put, List.setIfInBounds_toArray, List.set_cons_zero, List.set_cons_succ] | skip
          have hF := Bk.new y3 26 #[(.int .i64 (prodL l0 xs l1 ys)), (.slice B (prods l0 xs l1 ys).length d)]
          have oF := own_keep oMy ((Below.refl _ y3).alloc (Nat.le_refl _) (.cells #[(.int .i64 (prodL l0 xs l1 ys)), (.slice B (prods l0 xs l1 ys).length d)] 26)) (Nat.le_refl _)
          refine wpAnyH_take (i := 10) (oi := ?oi1461) (v := ?val1461) ?hi1461 ?hs1461 ?hf1461 ?hr1461 ?hQ1461 ?hy1461 ?hS1461 ?hrest1461
          case hi1461 => (simp only [List.getElem?_toArray, List.getElem?_cons_succ, List.getElem?_cons_zero] <;> exact rfl)
          case hs1461 => kernel_rfl
          case hf1461 => kernel_rfl
          case hr1461 => kernel_rfl
          case hQ1461 => exact fun _ _ _ h => h
          case hS1461 => assumption
          case hy1461 => (refine Or.inl ⟨by rfl, ?_⟩; intro w hSw; (try dsimp only at hSw); (first | obtain ⟨z0, z1, z2, z3⟩ := hSw | obtain ⟨z0, z1, z2⟩ := hSw | obtain ⟨z0, z1⟩ := hSw | skip); go_simp; try with_reducible rfl)
          simp only [Act.put, List.setIfInBounds_toArray, List.set_cons_zero, List.set_cons_succ]
          refine wpAnyH_done (by kernel_rfl) ?_ _
          (try go_wp2_with fail)
          go_meet
          case rel => exact ⟨_, B, d, rfl, rfl, Nat.le_trans hlo hgz, ((Below.refl _ w18).drew).trans hU, hF, oF⟩
        · skip
          go_simp
          refine hK.out _ _ (ES.out _ (hU.alloc hU.size _)) (fun hHeld2 => ?_)
          clear hK K hHeld
          have hHeld := hHeld2
          clear hHeld2
          first | simp only [Act.put, List.setIfInBounds_toArray, List.set_cons_zero, List.set_cons_succ] | skip
          have oy1 := own_keep oy1 ((Below.refl _ y2).alloc (Nat.le_refl _) (.cells #[.int .i64 0, .slice none 0 0] 26)) (Nat.le_refl _)
          have oy2 := own_keep oy2 ((Below.refl _ y2).alloc (Nat.le_refl _) (.cells #[.int .i64 0, .slice none 0 0] 26)) (Nat.le_refl _)
          have hZ := Bk.new y2 26 #[.int .i64 0, .slice none 0 0]
          have hgz : (World.drew w18).heap.size ≤ (y2).heap.size := hU.size
          have hU := hU.alloc hU.size (.cells #[.int .i64 0, .slice none 0 0] 26)
          refine wpAnyH_ready (rs := [4]) (by kernel_rfl) (by simp) ?_
          refine AllReadyH.cons rfl (fun K hK => ?_) AllReadyH.nil
          go_simp
          have hUs : w18.heap.size ≤ _ := hU.size
          with_reducible refine (implProductTable_any l0 C1 n0 e1 xs l1 C2 n1 e2 ys _ (Rd.of_own oy1) Hn0.out hb0 (Rd.of_own oy2) Hn1.out hb1).mono ?_
          rintro e y3 ⟨B, d, rfl, oM, hX⟩
          have oM := own_mono (b' := w18.heap.size) oM hUs
          have hU := hU.trans (hX.mono hU.size)
          have hZ := hZ.below hX hZ.lt
          refine hK.out _ _ (ES.out _ hU) (fun hHeld2 => ?_)
          clear hK K hHeld
          have hHeld := hHeld2
          clear hHeld2
          first | simp only [Act.put, List.setIfInBounds_toArray, List.set_cons_zero, List.set_cons_succ] | skip
          clear hX
          refine wpAnyH_take (i := 5) (oi := ?oi1501) (v := ?val1501) ?hi1501 ?hs1501 ?hf1501 ?hr1501 ?hQ1501 ?hy1501 ?hS1501 ?hrest1501
          case hi1501 => (simp only [List.getElem?_toArray, List.getElem?_cons_succ, List.getElem?_cons_zero] <;> exact rfl)
          case hs1501 => kernel_rfl
          case hf1501 => kernel_rfl
          case hr1501 => kernel_rfl
          case hQ1501 => exact fun _ _ _ h => h
          case hS1501 => assumption
          case hy1501 => (refine Or.inl ⟨by rfl, ?_⟩; intro w hSw; (try dsimp only at hSw); (first | obtain ⟨z0, z1, z2, z3⟩ := hSw | obtain ⟨z0, z1, z2⟩ := hSw | obtain ⟨z0, z1⟩ := hSw | skip); go_simp; try with_reducible rfl)
          simp only [Act.put, List.setIfInBounds_toArray, List.set_cons_zero, List.set_cons_succ]
          refine wpAnyH_take (i := 6) (oi := ?oi1510) (v := ?val1510) ?hi1510 ?hs1510 ?hf1510 ?hr1510 ?hQ1510 ?hy1510 ?hS1510 ?hrest1510
          case hi1510 => (simp only [List.getElem?_toArray, List.getElem?_cons_succ, List.getElem?_cons_zero] <;> exact rfl)
          case hs1510 => kernel_rfl
          case hf1510 => kernel_rfl
          case hr1510 => kernel_rfl
          case hQ1510 => exact fun _ _ _ h => h
          case hS1510 => assumption
          case hy1510 => (refine Or.inl ⟨by rfl, ?_⟩; intro w hSw; (try dsimp only at hSw); (first | obtain ⟨z0, z1, z2, z3⟩ := hSw | obtain ⟨z0, z1, z2⟩ := hSw | obtain ⟨z0, z1⟩ := hSw | skip); go_simp; try with_reducible rfl)
          simp only [Act.put, List.setIfInBounds_toArray, List.set_cons_zero, List.set_cons_succ]
          refine wpAnyH_take (i := 7) (oi := ?oi1519) (v := ?val1519) ?hi1519 ?hs1519 ?hf1519 ?hr1519 ?hQ1519 ?hy1519 ?hS1519 ?hrest1519
          case hi1519 => (simp only [List.getElem?_toArray, List.getElem?_cons_succ, List.getElem?_cons_zero] <;> exact rfl)
          case hs1519 => kernel_rfl
          case hf1519 => kernel_rfl
          case hr1519 => kernel_rfl
          case hQ1519 => exact fun _ _ _ h => h
          case hS1519 => assumption
          case hy1519 => (refine Or.inl ⟨by rfl, ?_⟩; intro w hSw; (try dsimp only at hSw); (first | obtain ⟨z0, z1, z2, z3⟩ := hSw | obtain ⟨z0, z1, z2⟩ := hSw | obtain ⟨z0, z1⟩ := hSw | skip); go_simp; try with_reducible rfl)
          simp only [Act.put, List.setIfInBounds_toArray, List.set_cons_zero, List.set_cons_succ]
          have z0 : y3.cell? ⟨y2.heap.size, 0, none⟩ = some (.int .i64 0) := by rw [hZ.cell]; rfl
          have z1 : y3.cell? ⟨y2.heap.size, 1, none⟩ = some (.slice none 0 0) := by rw [hZ.cell]; rfl
          have zf0 := hZ.free 0
          have zf1 := hZ.free 1
          have zl := hZ.lt
          refine wpAnyH_ready (rs := [9]) (by kernel_rfl) (by simp) ?_
          refine AllReadyH.cons rfl (fun K hK => ?_) AllReadyH.nil
          go_simp
          have hU := (hU.setCell (p := ⟨y2.heap.size, 0, none⟩) hgz (.int .i64 (prodL l0 xs l1 ys))).setCell (p := ⟨y2.heap.size, 1, none⟩) hgz (.slice B (prods l0 xs l1 ys).length d)
          refine hK.out _ _ (ES.out _ hU) (fun hHeld2 => ?_)
          clear hK K hHeld
          have hHeld := hHeld2
          clear hHeld2
          first | simp only [Act.put, List.setIfInBounds_toArray, List.set_cons_zero, List.set_cons_succ] | skip
          have hne := own_bk_ne oM hZ (by decide)
          have oF := own_far3 (own_far3 oM (p := ⟨y2.heap.size, 0, none⟩) (Ne.symm hne) (.int .i64 (prodL l0 xs l1 ys))) (p := ⟨y2.heap.size, 1, none⟩) (Ne.symm hne) (.slice B (prods l0 xs l1 ys).length d)
          have hF := (hZ.put 0 (.int .i64 (prodL l0 xs l1 ys))).put 1 (.slice B (prods l0 xs l1 ys).length d)
          refine wpAnyH_take (i := 10) (oi := ?oi1545) (v := ?val1545) ?hi1545 ?hs1545 ?hf1545 ?hr1545 ?hQ1545 ?hy1545 ?hS1545 ?hrest1545
          case hi1545 => (simp only [List.getElem?_toArray, List.getElem?_cons_succ, List.getElem?_cons_zero] <;> exact rfl)
          case hs1545 => kernel_rfl
          case hf1545 => kernel_rfl
          case hr1545 => kernel_rfl
          case hQ1545 => exact fun _ _ _ h => h
          case hS1545 => assumption
          case hy1545 => (refine Or.inl ⟨by rfl, ?_⟩; intro w hSw; (try dsimp only at hSw); (first | obtain ⟨z0, z1, z2, z3⟩ := hSw | obtain ⟨z0, z1, z2⟩ := hSw | obtain ⟨z0, z1⟩ := hSw | skip); go_simp; try with_reducible rfl)
          simp only [Act.put, List.setIfInBounds_toArray, List.set_cons_zero, List.set_cons_succ]
          refine wpAnyH_done (by kernel_rfl) ?_ _
          (try go_wp2_with fail)
          go_meet
          case rel => exact ⟨_, B, d, rfl, rfl, Nat.le_trans hlo hgz, ((Below.refl _ w18).drew).trans hU, hF, oF⟩
      · skip
        go_simp
        refine hK.out _ _ (ES.out _ (hU.alloc hU.size _)) (fun hHeld2 => ?_)
        clear hK K hHeld
        have hHeld := hHeld2
        clear hHeld2
        first | simp only [Act.put, List.setIfInBounds_toArray, List.set_cons_zero, List.set_cons_succ] | skip
        have oy1 := own_keep oy1 ((Below.refl _ y1).alloc (Nat.le_refl _) (.cells #[.int .i64 0, .slice none 0 0] 26)) (Nat.le_refl _)
        have hZ := Bk.new y1 26 #[.int .i64 0, .slice none 0 0]
        have hgz : (World.drew w18).heap.size ≤ (y1).heap.size := hU.size
        have hU := hU.alloc hU.size (.cells #[.int .i64 0, .slice none 0 0] 26)
        refine wpAnyH_ready (rs := [3]) (by kernel_rfl) (by simp) ?_
        refine AllReadyH.cons rfl (fun K hK => ?_) AllReadyH.nil
        go_simp
        have rr := hr1.keep (td.trans (hU.mono hwd))
        with_reducible refine (toTable_any l1 A1 n1 c1 ys _ rr Hn1.out hb1).mono ?_
        rintro e y2 ⟨C2, e2, rfl, oy2, hX⟩
        have oy1 := own_keep oy1 hX (Nat.le_refl _)
        have hU := hU.trans (hX.mono hU.size)
        have hZ := hZ.below hX hZ.lt
        refine hK.out _ _ (ES.out _ hU) (fun hHeld2 => ?_)
        clear hK K hHeld
        have hHeld := hHeld2
        clear hHeld2
        first | simp only [Act.put, List.setIfInBounds_toArray, List.set_cons_zero, List.set_cons_succ] | skip
        clear hX
        refine wpAnyH_ready (rs := [4]) (by kernel_rfl) (by simp) ?_
        refine AllReadyH.cons rfl (fun K hK => ?_) AllReadyH.nil
        go_simp
        have hUs : w18.heap.size ≤ _ := hU.size
        with_reducible refine (implProductTable_any l0 C1 n0 e1 xs l1 C2 n1 e2 ys _ (Rd.of_own oy1) Hn0.out hb0 (Rd.of_own oy2) Hn1.out hb1).mono ?_
        rintro e y3 ⟨B, d, rfl, oM, hX⟩
        have oM := own_mono (b' := w18.heap.size) oM hUs
        have hU := hU.trans (hX.mono hU.size)
        have hZ := hZ.below hX hZ.lt
        refine hK.out _ _ (ES.out _ hU) (fun hHeld2 => ?_)
        clear hK K hHeld
        have hHeld := hHeld2
        clear hHeld2
        first | simp only [Act.put, List.setIfInBounds_toArray, List.set_cons_zero, List.set_cons_succ] | skip
        clear hX
        refine wpAnyH_take (i := 5) (oi := ?oi1599) (v := ?val1599) ?hi1599 ?hs1599 ?hf1599 ?hr1599 ?hQ1599 ?hy1599 ?hS1599 ?hrest1599
        case hi1599 => (simp only [List.getElem?_toArray, List.getElem?_cons_succ, List.getElem?_cons_zero] <;> exact rfl)
        case hs1599 => kernel_rfl
        case hf1599 => kernel_rfl
        case hr1599 => kernel_rfl
        case hQ1599 => exact fun _ _ _ h => h
        case hS1599 => assumption
        case hy1599 => (refine Or.inl ⟨by rfl, ?_⟩; intro w hSw; (try dsimp only at hSw); (first | obtain ⟨z0, z1, z2, z3⟩ := hSw | obtain ⟨z0, z1, z2⟩ := hSw | obtain ⟨z0, z1⟩ := hSw | skip); go_simp; try with_reducible rfl)
        simp only [Act.put, List.setIfInBounds_toArray, List.set_cons_zero, List.set_cons_succ]
        refine wpAnyH_take (i := 6) (oi := ?oi1608) (v := ?val1608) ?hi1608 ?hs1608 ?hf1608 ?hr1608 ?hQ1608 ?hy1608 ?hS1608 ?hrest1608
        case hi1608 => (simp only [List.getElem?_toArray, List.getElem?_cons_succ, List.getElem?_cons_zero] <;> exact rfl)
        case hs1608 => kernel_rfl
        case hf1608 => kernel_rfl
        case hr1608 => kernel_rfl
        case hQ1608 => exact fun _ _ _ h => h
        case hS1608 => assumption
        case hy1608 => (refine Or.inl ⟨by rfl, ?_⟩; intro w hSw; (try dsimp only at hSw); (first | obtain ⟨z0, z1, z2, z3⟩ := hSw | obtain ⟨z0, z1, z2⟩ := hSw | obtain ⟨z0, z1⟩ := hSw | skip); go_simp; try with_reducible rfl)
        simp only [Act.put, List.setIfInBounds_toArray, List.set_cons_zero, List.set_cons_succ]
        refine wpAnyH_take (i := 7) (oi := ?oi1617) (v := ?val1617) ?hi1617 ?hs1617 ?hf1617 ?hr1617 ?hQ1617 ?hy1617 ?hS1617 ?hrest1617
        case hi1617 => (simp only [List.getElem?_toArray, List.getElem?_cons_succ, List.getElem?_cons_zero] <;> exact rfl)
        case hs1617 => kernel_rfl
        case hf1617 => kernel_rfl
        case hr1617 => kernel_rfl
        case hQ1617 => exact fun _ _ _ h => h
        case hS1617 => assumption
        case hy1617 => (refine Or.inl ⟨by rfl, ?_⟩; intro w hSw; (try dsimp only at hSw); (first | obtain ⟨z0, z1, z2, z3⟩ := hSw | obtain ⟨z0, z1, z2⟩ := hSw | obtain ⟨z0, z1⟩ := hSw | skip); go_simp; try with_reducible rfl)
        simp only [Act.put, List.setIfInBounds_toArray, List.set_cons_zero, List.set_cons_succ]
        have z0 : y3.cell? ⟨y1.heap.size, 0, none⟩ = some (.int .i64 0) := by rw [hZ.cell]; rfl
        have z1 : y3.cell? ⟨y1.heap.size, 1, none⟩ = some (.slice none 0 0) := by rw [hZ.cell]; rfl
        have zf0 := hZ.free 0
        have zf1 := hZ.free 1
        have zl := hZ.lt
        refine wpAnyH_ready (rs := [9]) (by kernel_rfl) (by simp) ?_
        refine AllReadyH.cons rfl (fun K hK => ?_) AllReadyH.nil
        go_simp
        have hU := (hU.setCell (p := ⟨y1.heap.size, 0, none⟩) hgz (.int .i64 (prodL l0 xs l1 ys))).setCell (p := ⟨y1.heap.size, 1, none⟩) hgz (.slice B (prods l0 xs l1 ys).length d)
        refine hK.out _ _ (ES.out _ hU) (fun hHeld2 => ?_)
        clear hK K hHeld
        have hHeld := hHeld2
        clear hHeld2
        first | simp only [Act.put, List.setIfInBounds_toArray, List.set_cons_zero, List.set_cons_succ] | skip
        have hne := own_bk_ne oM hZ (by decide)
        have oF := own_far3 (own_far3 oM (p := ⟨y1.heap.size, 0, none⟩) (Ne.symm hne) (.int .i64 (prodL l0 xs l1 ys))) (p := ⟨y1.heap.size, 1, none⟩) (Ne.symm hne) (.slice B (prods l0 xs l1 ys).length d)
        have hF := (hZ.put 0 (.int .i64 (prodL l0 xs l1 ys))).put 1 (.slice B (prods l0 xs l1 ys).length d)
        refine wpAnyH_take (i := 10) (oi := ?oi1643) (v := ?val1643) ?hi1643 ?hs1643 ?hf1643 ?hr1643 ?hQ1643 ?hy1643 ?hS1643 ?hrest1643
        case hi1643 => (simp only [List.getElem?_toArray, List.getElem?_cons_succ, List.getElem?_cons_zero] <;> exact rfl)
        case hs1643 => kernel_rfl
        case hf1643 => kernel_rfl
        case hr1643 => kernel_rfl
        case hQ1643 => exact fun _ _ _ h => h
        case hS1643 => assumption
        case hy1643 => (refine Or.inl ⟨by rfl, ?_⟩; intro w hSw; (try dsimp only at hSw); (first | obtain ⟨z0, z1, z2, z3⟩ := hSw | obtain ⟨z0, z1, z2⟩ := hSw | obtain ⟨z0, z1⟩ := hSw | skip); go_simp; try with_reducible rfl)
        simp only [Act.put, List.setIfInBounds_toArray, List.set_cons_zero, List.set_cons_succ]
        refine wpAnyH_done (by kernel_rfl) ?_ _
        (try go_wp2_with fail)
        go_meet
        case rel => exact ⟨_, B, d, rfl, rfl, Nat.le_trans hlo hgz, ((Below.refl _ w18).drew).trans hU, hF, oF⟩
    · skip
      go_simp
      refine hK.out _ _ (ES.out _ (hU.alloc hU.size _)) (fun hHeld2 => ?_)
      clear hK K hHeld
      have hHeld := hHeld2
      clear hHeld2
      first | simp only [Act.put, List.setIfInBounds_toArray, List.set_cons_zero, List.set_cons_succ] | skip
      have hZ : Bk (World.drew (World.alloc w18 (.cells #[.int .i64 0, .slice none 0 0] 26))) w18.heap.size 26 #[.int .i64 0, .slice none 0 0] := Bk.new (World.drew w18) _ _
      have hgz : (World.drew w18).heap.size ≤ w18.heap.size := Nat.le_refl _
      have hU : Below (World.drew w18).heap.size (World.drew w18) (World.drew (World.alloc w18 (.cells #[.int .i64 0, .slice none 0 0] 26))) := hU.alloc hU.size (.cells #[.int .i64 0, .slice none 0 0] 26)
      refine wpAnyH_ready (rs := [1]) (by kernel_rfl) (by simp) ?_
      refine AllReadyH.cons rfl (fun K hK => ?_) AllReadyH.nil
      go_simp
      have rr := hr0.keep (td.trans (hU.mono hwd))
      with_reducible refine (toTable_any l0 A0 n0 c0 xs _ rr Hn0.out hb0).mono ?_
      rintro e y1 ⟨C1, e1, rfl, oy1, hX⟩
      have hU := hU.trans (hX.mono hU.size)
      have hZ := hZ.below hX hZ.lt
      refine hK.out _ _ (ES.out _ hU) (fun hHeld2 => ?_)
      clear hK K hHeld
      have hHeld := hHeld2
      clear hHeld2
      first | simp only [Act.put, List.setIfInBounds_toArray, List.set_cons_zero, List.set_cons_succ] | skip
      clear hX
      refine wpAnyH_ready (rs := [3]) (by kernel_rfl) (by simp) ?_
      refine AllReadyH.cons rfl (fun K hK => ?_) AllReadyH.nil
      go_simp
      have rr := hr1.keep (td.trans (hU.mono hwd))
      with_reducible refine (toTable_any l1 A1 n1 c1 ys _ rr Hn1.out hb1).mono ?_
      rintro e y2 ⟨C2, e2, rfl, oy2, hX⟩
      have oy1 := own_keep oy1 hX (Nat.le_refl _)
      have hU := hU.trans (hX.mono hU.size)
      have hZ := hZ.below hX hZ.lt
      refine hK.out _ _ (ES.out _ hU) (fun hHeld2 => ?_)
      clear hK K hHeld
      have hHeld := hHeld2
      clear hHeld2
      first | simp only [Act.put, List.setIfInBounds_toArray, List.set_cons_zero, List.set_cons_succ] | skip
      clear hX
      refine wpAnyH_ready (rs := [4]) (by kernel_rfl) (by simp) ?_
      refine AllReadyH.cons rfl (fun K hK => ?_) AllReadyH.nil
      go_simp
      have hUs : w18.heap.size ≤ _ := hU.size
      with_reducible refine (implProductTable_any l0 C1 n0 e1 xs l1 C2 n1 e2 ys _ (Rd.of_own oy1) Hn0.out hb0 (Rd.of_own oy2) Hn1.out hb1).mono ?_
      rintro e y3 ⟨B, d, rfl, oM, hX⟩
      have oM := own_mono (b' := w18.heap.size) oM hUs
      have hU := hU.trans (hX.mono hU.size)
      have hZ := hZ.below hX hZ.lt
      refine hK.out _ _ (ES.out _ hU) (fun hHeld2 => ?_)
      clear hK K hHeld
      have hHeld := hHeld2
      clear hHeld2
      first | simp only [Act.put, List.setIfInBounds_toArray, List.set_cons_zero, List.set_cons_succ] | skip
      clear hX
      refine wpAnyH_take (i := 5) (oi := ?oi1710) (v := ?val1710) ?hi1710 ?hs1710 ?hf1710 ?hr1710 ?hQ1710 ?hy1710 ?hS1710 ?hrest1710
      case hi1710 => (simp only [List.getElem?_toArray, List.getElem?_cons_succ, List.getElem?_cons_zero] <;> exact rfl)
      case hs1710 => kernel_rfl
      case hf1710 => kernel_rfl
      case hr1710 => kernel_rfl
      case hQ1710 => exact fun _ _ _ h => h
      case hS1710 => assumption
      case hy1710 => (refine Or.inl ⟨by rfl, ?_⟩; intro w hSw; (try dsimp only at hSw); (first | obtain ⟨z0, z1, z2, z3⟩ := hSw | obtain ⟨z0, z1, z2⟩ := hSw | obtain ⟨z0, z1⟩ := hSw | skip); go_simp; try with_reducible rfl)
      simp only [Act.put, List.setIfInBounds_toArray, List.set_cons_zero, List.set_cons_succ]
      refine wpAnyH_take (i := 6) (oi := ?oi1719) (v := ?val1719) ?hi1719 ?hs1719 ?hf1719 ?hr1719 ?hQ1719 ?hy1719 ?hS1719 ?hrest1719
      case hi1719 => (simp only [List.getElem?_toArray, List.getElem?_cons_succ, List.getElem?_cons_zero] <;> exact rfl)
      case hs1719 => kernel_rfl
      case hf1719 => kernel_rfl
      case hr1719 => kernel_rfl
      case hQ1719 => exact fun _ _ _ h => h
      case hS1719 => assumption
      case hy1719 => (refine Or.inl ⟨by rfl, ?_⟩; intro w hSw; (try dsimp only at hSw); (first | obtain ⟨z0, z1, z2, z3⟩ := hSw | obtain ⟨z0, z1, z2⟩ := hSw | obtain ⟨z0, z1⟩ := hSw | skip); go_simp; try with_reducible rfl)
      simp only [Act.put, List.setIfInBounds_toArray, List.set_cons_zero, List.set_cons_succ]
      refine wpAnyH_take (i := 7) (oi := ?oi1728) (v := ?val1728) ?hi1728 ?hs1728 ?hf1728 ?hr1728 ?hQ1728 ?hy1728 ?hS1728 ?hrest1728
      case hi1728 => (simp only [List.getElem?_toArray, List.getElem?_cons_succ, List.getElem?_cons_zero] <;> exact rfl)
      case hs1728 => kernel_rfl
      case hf1728 => kernel_rfl
      case hr1728 => kernel_rfl
      case hQ1728 => exact fun _ _ _ h => h
      case hS1728 => assumption
      case hy1728 => (refine Or.inl ⟨by rfl, ?_⟩; intro w hSw; (try dsimp only at hSw); (first | obtain ⟨z0, z1, z2, z3⟩ := hSw | obtain ⟨z0, z1, z2⟩ := hSw | obtain ⟨z0, z1⟩ := hSw | skip); go_simp; try with_reducible rfl)
      simp only [Act.put, List.setIfInBounds_toArray, List.set_cons_zero, List.set_cons_succ]
      have z0 : y3.cell? ⟨w18.heap.size, 0, none⟩ = some (.int .i64 0) := by rw [hZ.cell]; rfl
      have z1 : y3.cell? ⟨w18.heap.size, 1, none⟩ = some (.slice none 0 0) := by rw [hZ.cell]; rfl
      have zf0 := hZ.free 0
      have zf1 := hZ.free 1
      have zl := hZ.lt
      refine wpAnyH_ready (rs := [9]) (by kernel_rfl) (by simp) ?_
      refine AllReadyH.cons rfl (fun K hK => ?_) AllReadyH.nil
      go_simp
      have hU := (hU.setCell (p := ⟨w18.heap.size, 0, none⟩) hgz (.int .i64 (prodL l0 xs l1 ys))).setCell (p := ⟨w18.heap.size, 1, none⟩) hgz (.slice B (prods l0 xs l1 ys).length d)
      refine hK.out _ _ (ES.out _ hU) (fun hHeld2 => ?_)
      clear hK K hHeld
      have hHeld := hHeld2
      clear hHeld2
      first | simp only [Act.put, List.setIfInBounds_toArray, List.set_cons_zero, List.set_cons_succ] | skip
      have hne := own_bk_ne oM hZ (by decide)
      have oF := own_far3 (own_far3 oM (p := ⟨w18.heap.size, 0, none⟩) (Ne.symm hne) (.int .i64 (prodL l0 xs l1 ys))) (p := ⟨w18.heap.size, 1, none⟩) (Ne.symm hne) (.slice B (prods l0 xs l1 ys).length d)
      have hF := (hZ.put 0 (.int .i64 (prodL l0 xs l1 ys))).put 1 (.slice B (prods l0 xs l1 ys).length d)
      refine wpAnyH_take (i := 10) (oi := ?oi1754) (v := ?val1754) ?hi1754 ?hs1754 ?hf1754 ?hr1754 ?hQ1754 ?hy1754 ?hS1754 ?hrest1754
      case hi1754 => (simp only [List.getElem?_toArray, List.getElem?_cons_succ, List.getElem?_cons_zero] <;> exact rfl)
      case hs1754 => kernel_rfl
      case hf1754 => kernel_rfl
      case hr1754 => kernel_rfl
      case hQ1754 => exact fun _ _ _ h => h
      case hS1754 => assumption
      case hy1754 => (refine Or.inl ⟨by rfl, ?_⟩; intro w hSw; (try dsimp only at hSw); (first | obtain ⟨z0, z1, z2, z3⟩ := hSw | obtain ⟨z0, z1, z2⟩ := hSw | obtain ⟨z0, z1⟩ := hSw | skip); go_simp; try with_reducible rfl)
      simp only [Act.put, List.setIfInBounds_toArray, List.set_cons_zero, List.set_cons_succ]
      refine wpAnyH_done (by kernel_rfl) ?_ _
      (try go_wp2_with fail)
      go_meet
      case rel => exact ⟨_, B, d, rfl, rfl, Nat.le_trans hlo hgz, ((Below.refl _ w18).drew).trans hU, hF, oF⟩
  obtain ⟨g19, B19, d19, rfl, rfl, hg19, b19, xv19_19, og19_19⟩ := hcut
  rename World => w19
  have t19 := t18.trans (b19.mono t18.size)
  clear td hwd hU hlo ES ZS
  have a_g4_g19 := Lib.hid (own_apart og4_18 og19_19 (Nat.le_refl _))
  have a_g19_g4 := Lib.hid (own_apart' og19_19 og4_18 (Nat.le_refl _))
  have a_x5_g19 := Lib.hid (own_apart ox5_18 og19_19 (Nat.le_refl _))
  have a_g19_x5 := Lib.hid (own_apart' og19_19 ox5_18 (Nat.le_refl _))
  have a_x7_g19 := Lib.hid (own_apart ox7_18 og19_19 (Nat.le_refl _))
  have a_g19_x7 := Lib.hid (own_apart' og19_19 ox7_18 (Nat.le_refl _))
  have a_g9_g19 := Lib.hid (own_apart og9_18 og19_19 (Nat.le_refl _))
  have a_g19_g9 := Lib.hid (own_apart' og19_19 og9_18 (Nat.le_refl _))
  clear lp0 cp0_0 cp0_1
  clear lp1 cp1_0 cp1_1
  clear lv4 cv4_0 cv4_1
  clear lv6 cv6_0 cv6_1
  clear lv8 cv8_0 cv8_1
  clear lv10 cv10_0 cv10_1
  have og4_19 := own_keep og4_18 b19 (Nat.le_refl _)
  clear og4_18
  have ox5_19 := own_keep ox5_18 b19 (Nat.le_refl _)
  clear ox5_18
  have ox7_19 := own_keep ox7_18 b19 (Nat.le_refl _)
  clear ox7_18
  have og9_19 := own_keep og9_18 b19 (Nat.le_refl _)
  clear og9_18
  have xp0_19 := XP0_18.out.below b19 XP0_18.out.lt
  clear XP0_18
  have xp1_19 := XP1_18.out.below b19 XP1_18.out.lt
  clear XP1_18
  have xv4_19 := XV4_18.out.below b19 XV4_18.out.lt
  clear XV4_18
  have xv6_19 := XV6_18.out.below b19 XV6_18.out.lt
  clear XV6_18
  have xv8_19 := XV8_18.out.below b19 XV8_18.out.lt
  clear XV8_18
  have xv10_19 := XV10_18.out.below b19 XV10_18.out.lt
  clear XV10_18
  have cp0_0 : w19.cell? ⟨w.heap.size, 0, none⟩ = some (.int .i64 l0) := by rw [xp0_19.cell]; rfl
  have cp0_1 : w19.cell? ⟨w.heap.size, 1, none⟩ = some (.slice A0 n0 c0) := by rw [xp0_19.cell]; rfl
  have lp0 := xp0_19.lt
  have XP0_19 := Lib.hid xp0_19
  clear xp0_19
  have cp1_0 : w19.cell? ⟨w.heap.size + 1, 0, none⟩ = some (.int .i64 l1) := by rw [xp1_19.cell]; rfl
  have cp1_1 : w19.cell? ⟨w.heap.size + 1, 1, none⟩ = some (.slice A1 n1 c1) := by rw [xp1_19.cell]; rfl
  have lp1 := xp1_19.lt
  have XP1_19 := Lib.hid xp1_19
  clear xp1_19
  have cv4_0 : w19.cell? ⟨g4, 0, none⟩ = some (.int .i64 (prodL l0 xs l1 ys)) := by rw [xv4_19.cell]; rfl
  have cv4_1 : w19.cell? ⟨g4, 1, none⟩ = some (.slice B4 ((prods l0 xs l1 ys).length) d4) := by rw [xv4_19.cell]; rfl
  have lv4 := xv4_19.lt
  have XV4_19 := Lib.hid xv4_19
  clear xv4_19
  have cv6_0 : w19.cell? ⟨w5.heap.size, 0, none⟩ = some (.int .i64 l0) := by rw [xv6_19.cell]; rfl
  have cv6_1 : w19.cell? ⟨w5.heap.size, 1, none⟩ = some (.slice B5 n0 d5) := by rw [xv6_19.cell]; rfl
  have lv6 := xv6_19.lt
  have XV6_19 := Lib.hid xv6_19
  clear xv6_19
  have cv8_0 : w19.cell? ⟨w7.heap.size, 0, none⟩ = some (.int .i64 l1) := by rw [xv8_19.cell]; rfl
  have cv8_1 : w19.cell? ⟨w7.heap.size, 1, none⟩ = some (.slice B7 n1 d7) := by rw [xv8_19.cell]; rfl
  have lv8 := xv8_19.lt
  have XV8_19 := Lib.hid xv8_19
  clear xv8_19
  have cv10_0 : w19.cell? ⟨w9.heap.size, 0, none⟩ = some (.int .i64 (prodL l0 xs l1 ys)) := by rw [xv10_19.cell]; rfl
  have cv10_1 : w19.cell? ⟨w9.heap.size, 1, none⟩ = some (.slice B9 ((prods l0 xs l1 ys).length) d9) := by rw [xv10_19.cell]; rfl
  have lv10 := xv10_19.lt
  have XV10_19 := Lib.hid xv10_19
  clear xv10_19
  have cv19_0 : w19.cell? ⟨g19, 0, none⟩ = some (.int .i64 (prodL l0 xs l1 ys)) := by rw [xv19_19.cell]; rfl
  have cv19_1 : w19.cell? ⟨g19, 1, none⟩ = some (.slice B19 ((prods l0 xs l1 ys).length) d19) := by rw [xv19_19.cell]; rfl
  have lv19 := xv19_19.lt
  have XV19_19 := Lib.hid xv19_19
  clear xv19_19
  go_wp2_with fail
  (with_reducible refine (eqTable_k (prodL l0 xs l1 ys) B19 ((prods l0 xs l1 ys).length) d19 (prods l0 xs l1 ys) (prodL l0 xs l1 ys)  B4 ((prods l0 xs l1 ys).length) d4 (prods l0 xs l1 ys) _ (Rd.of_own og19_19) rfl (le_big (prods_len l0 xs l1 ys)) (Rd.of_own og4_19) rfl (le_big (prods_len l0 xs l1 ys))).mono ?_)
  rintro e w20 ⟨rfl, b20⟩
  have t20 := t19.trans (b20.mono t19.size)
  clear lp0 cp0_0 cp0_1
  clear lp1 cp1_0 cp1_1
  clear lv4 cv4_0 cv4_1
  clear lv6 cv6_0 cv6_1
  clear lv8 cv8_0 cv8_1
  clear lv10 cv10_0 cv10_1
  clear lv19 cv19_0 cv19_1
  have og4_20 := own_keep og4_19 b20 (Nat.le_refl _)
  clear og4_19
  have ox5_20 := own_keep ox5_19 b20 (Nat.le_refl _)
  clear ox5_19
  have ox7_20 := own_keep ox7_19 b20 (Nat.le_refl _)
  clear ox7_19
  have og9_20 := own_keep og9_19 b20 (Nat.le_refl _)
  clear og9_19
  have og19_20 := own_keep og19_19 b20 (Nat.le_refl _)
  clear og19_19
  have xp0_20 := XP0_19.out.below b20 XP0_19.out.lt
  clear XP0_19
  have xp1_20 := XP1_19.out.below b20 XP1_19.out.lt
  clear XP1_19
  have xv4_20 := XV4_19.out.below b20 XV4_19.out.lt
  clear XV4_19
  have xv6_20 := XV6_19.out.below b20 XV6_19.out.lt
  clear XV6_19
  have xv8_20 := XV8_19.out.below b20 XV8_19.out.lt
  clear XV8_19
  have xv10_20 := XV10_19.out.below b20 XV10_19.out.lt
  clear XV10_19
  have xv19_20 := XV19_19.out.below b20 XV19_19.out.lt
  clear XV19_19
  have cp0_0 : w20.cell? ⟨w.heap.size, 0, none⟩ = some (.int .i64 l0) := by rw [xp0_20.cell]; rfl
  have cp0_1 : w20.cell? ⟨w.heap.size, 1, none⟩ = some (.slice A0 n0 c0) := by rw [xp0_20.cell]; rfl
  have lp0 := xp0_20.lt
  have XP0_20 := Lib.hid xp0_20
  clear xp0_20
  have cp1_0 : w20.cell? ⟨w.heap.size + 1, 0, none⟩ = some (.int .i64 l1) := by rw [xp1_20.cell]; rfl
  have cp1_1 : w20.cell? ⟨w.heap.size + 1, 1, none⟩ = some (.slice A1 n1 c1) := by rw [xp1_20.cell]; rfl
  have lp1 := xp1_20.lt
  have XP1_20 := Lib.hid xp1_20
  clear xp1_20
  have cv4_0 : w20.cell? ⟨g4, 0, none⟩ = some (.int .i64 (prodL l0 xs l1 ys)) := by rw [xv4_20.cell]; rfl
  have cv4_1 : w20.cell? ⟨g4, 1, none⟩ = some (.slice B4 ((prods l0 xs l1 ys).length) d4) := by rw [xv4_20.cell]; rfl
  have lv4 := xv4_20.lt
  have XV4_20 := Lib.hid xv4_20
  clear xv4_20
  have cv6_0 : w20.cell? ⟨w5.heap.size, 0, none⟩ = some (.int .i64 l0) := by rw [xv6_20.cell]; rfl
  have cv6_1 : w20.cell? ⟨w5.heap.size, 1, none⟩ = some (.slice B5 n0 d5) := by rw [xv6_20.cell]; rfl
  have lv6 := xv6_20.lt
  have XV6_20 := Lib.hid xv6_20
  clear xv6_20
  have cv8_0 : w20.cell? ⟨w7.heap.size, 0, none⟩ = some (.int .i64 l1) := by rw [xv8_20.cell]; rfl
  have cv8_1 : w20.cell? ⟨w7.heap.size, 1, none⟩ = some (.slice B7 n1 d7) := by rw [xv8_20.cell]; rfl
  have lv8 := xv8_20.lt
  have XV8_20 := Lib.hid xv8_20
  clear xv8_20
  have cv10_0 : w20.cell? ⟨w9.heap.size, 0, none⟩ = some (.int .i64 (prodL l0 xs l1 ys)) := by rw [xv10_20.cell]; rfl
  have cv10_1 : w20.cell? ⟨w9.heap.size, 1, none⟩ = some (.slice B9 ((prods l0 xs l1 ys).length) d9) := by rw [xv10_20.cell]; rfl
  have lv10 := xv10_20.lt
  have XV10_20 := Lib.hid xv10_20
  clear xv10_20
  have cv19_0 : w20.cell? ⟨g19, 0, none⟩ = some (.int .i64 (prodL l0 xs l1 ys)) := by rw [xv19_20.cell]; rfl
  have cv19_1 : w20.cell? ⟨g19, 1, none⟩ = some (.slice B19 ((prods l0 xs l1 ys).length) d19) := by rw [xv19_20.cell]; rfl
  have lv19 := xv19_20.lt
  have XV19_20 := Lib.hid xv19_20
  clear xv19_20
  go_wp2_with fail
  (with_reducible refine (heldTable_k (prodL l0 xs l1 ys) B9 ((prods l0 xs l1 ys).length) d9 1 _ (Rd.of_own og9_20) (by omega) (by have := (prods_len l0 xs l1 ys); omega)).mono ?_)
  rintro e w21 ⟨rfl, b21⟩
  have t21 := t20.trans (b21.mono t20.size)
  clear lp0 cp0_0 cp0_1
  clear lp1 cp1_0 cp1_1
  clear lv4 cv4_0 cv4_1
  clear lv6 cv6_0 cv6_1
  clear lv8 cv8_0 cv8_1
  clear lv10 cv10_0 cv10_1
  clear lv19 cv19_0 cv19_1
  have og4_21 := own_keep og4_20 b21 (Nat.le_refl _)
  clear og4_20
  have ox5_21 := own_keep ox5_20 b21 (Nat.le_refl _)
  clear ox5_20
  have ox7_21 := own_keep ox7_20 b21 (Nat.le_refl _)
  clear ox7_20
  have og9_21 := own_keep og9_20 b21 (Nat.le_refl _)
  clear og9_20
  have og19_21 := own_keep og19_20 b21 (Nat.le_refl _)
  clear og19_20
  have xp0_21 := XP0_20.out.below b21 XP0_20.out.lt
  clear XP0_20
  have xp1_21 := XP1_20.out.below b21 XP1_20.out.lt
  clear XP1_20
  have xv4_21 := XV4_20.out.below b21 XV4_20.out.lt
  clear XV4_20
  have xv6_21 := XV6_20.out.below b21 XV6_20.out.lt
  clear XV6_20
  have xv8_21 := XV8_20.out.below b21 XV8_20.out.lt
  clear XV8_20
  have xv10_21 := XV10_20.out.below b21 XV10_20.out.lt
  clear XV10_20
  have xv19_21 := XV19_20.out.below b21 XV19_20.out.lt
  clear XV19_20
  have cp0_0 : w21.cell? ⟨w.heap.size, 0, none⟩ = some (.int .i64 l0) := by rw [xp0_21.cell]; rfl
  have cp0_1 : w21.cell? ⟨w.heap.size, 1, none⟩ = some (.slice A0 n0 c0) := by rw [xp0_21.cell]; rfl
  have lp0 := xp0_21.lt
  have XP0_21 := Lib.hid xp0_21
  clear xp0_21
  have cp1_0 : w21.cell? ⟨w.heap.size + 1, 0, none⟩ = some (.int .i64 l1) := by rw [xp1_21.cell]; rfl
  have cp1_1 : w21.cell? ⟨w.heap.size + 1, 1, none⟩ = some (.slice A1 n1 c1) := by rw [xp1_21.cell]; rfl
  have lp1 := xp1_21.lt
  have XP1_21 := Lib.hid xp1_21
  clear xp1_21
  have cv4_0 : w21.cell? ⟨g4, 0, none⟩ = some (.int .i64 (prodL l0 xs l1 ys)) := by rw [xv4_21.cell]; rfl
  have cv4_1 : w21.cell? ⟨g4, 1, none⟩ = some (.slice B4 ((prods l0 xs l1 ys).length) d4) := by rw [xv4_21.cell]; rfl
  have lv4 := xv4_21.lt
  have XV4_21 := Lib.hid xv4_21
  clear xv4_21
  have cv6_0 : w21.cell? ⟨w5.heap.size, 0, none⟩ = some (.int .i64 l0) := by rw [xv6_21.cell]; rfl
  have cv6_1 : w21.cell? ⟨w5.heap.size, 1, none⟩ = some (.slice B5 n0 d5) := by rw [xv6_21.cell]; rfl
  have lv6 := xv6_21.lt
  have XV6_21 := Lib.hid xv6_21
  clear xv6_21
  have cv8_0 : w21.cell? ⟨w7.heap.size, 0, none⟩ = some (.int .i64 l1) := by rw [xv8_21.cell]; rfl
  have cv8_1 : w21.cell? ⟨w7.heap.size, 1, none⟩ = some (.slice B7 n1 d7) := by rw [xv8_21.cell]; rfl
  have lv8 := xv8_21.lt
  have XV8_21 := Lib.hid xv8_21
  clear xv8_21
  have cv10_0 : w21.cell? ⟨w9.heap.size, 0, none⟩ = some (.int .i64 (prodL l0 xs l1 ys)) := by rw [xv10_21.cell]; rfl
  have cv10_1 : w21.cell? ⟨w9.heap.size, 1, none⟩ = some (.slice B9 ((prods l0 xs l1 ys).length) d9) := by rw [xv10_21.cell]; rfl
  have lv10 := xv10_21.lt
  have XV10_21 := Lib.hid xv10_21
  clear xv10_21
  have cv19_0 : w21.cell? ⟨g19, 0, none⟩ = some (.int .i64 (prodL l0 xs l1 ys)) := by rw [xv19_21.cell]; rfl
  have cv19_1 : w21.cell? ⟨g19, 1, none⟩ = some (.slice B19 ((prods l0 xs l1 ys).length) d19) := by rw [xv19_21.cell]; rfl
  have lv19 := xv19_21.lt
  have XV19_21 := Lib.hid xv19_21
  clear xv19_21
  go_wp2_with fail
  go_ret
  exact ⟨rfl, t21⟩
  
set_option maxRecDepth 100000 in
theorem lifted_ProductTable (os : Os) (started : os.Started) (H : Type) (enc : TypeId × Value → H) :
    ReturnsInHanded {} Try.checked os 3 .any (Rows.fnExactProductTableSpec.pre6 enc Try.prog Try.f3 Rows.fnExactProductTableRow.domain false) (Rows.fnExactProductTableSpec.post enc Try.prog Try.f3 false true false false) := by
  refine returnsInHanded_of_change (C := Try.checked) own_knob started (by kernel_rfl) Try.func3
    (ChangeSpec.witness6 (enc := enc) (C := Try.checked) false ⟨#[], #[.agg #[.int .i64 0, .slice none 0 0], .agg #[.int .i64 0, .slice none 0 0]], []⟩ 8 (by kernel_rfl) (by kernel_rfl) (by kernel_rfl) (by kernel_rfl)) ?_
  intro W base args ds gs before hval0 hW _ _
  have hval : ∀ (j : Nat) t v, Try.f3.params[j]? = some t → args[j]? = some v → Value.okWide Try.prog W .any base t v := hval0
  have hW' := hW
  obtain ⟨p, q, hA0, hV, rfl, hfz, hnd⟩ := hW
  have hA : DataW.TrodAll enc Try.prog W 0 (fun _ => true) true Try.f3.params.toList args.toList ds p := hA0
  rw [Try.params3] at hA hval
  obtain ⟨v0, vs0, d0, ds0, p0, q0, hargs, rfl, rfl, h0, r0⟩ := trodAll_cons hA
  obtain ⟨v1, vs1, d1, ds1, p1, q1, rfl, rfl, rfl, h1, r1⟩ := trodAll_cons r0
  obtain ⟨rfl, rfl, rfl⟩ := trodAll_nil r1
  obtain rfl : args = #[v0, v1] := by cases args; simp_all
  obtain ⟨rfl, rfl⟩ := trodVars_none hV
  have k0 := h0
  have lt0 : ∀ x ∈ p0, x.block < W.heap.size := by obtain ⟨m, hm⟩ := k0; exact DataW.trod_lt m _ _ _ hm
  have k1 := h1
  have lt1 : ∀ x ∈ p1, x.block < W.heap.size := by obtain ⟨m, hm⟩ := k1; exact DataW.trod_lt m _ _ _ hm
  obtain ⟨z0, R0⟩ := open_table (hval 0 24 v0 rfl rfl) h0
  obtain ⟨z1, R1⟩ := open_table (hval 1 24 v1 rfl rfl) h1
  clear hA0 hval0
  refine (law_ProductTable W v0 z0 R0 v1 z1 R1).mono fun e W' ⟨he, bel⟩ => ?_
  subst he
  exact ⟨_, rfl, _, _, _, [], _, [], hW', trodAll_mk1 (shut_bool Try.underlying4 _), (trodAll_cons_mk (Below.trod laid_out (by kernel_rfl) (of_decide_eq_true (by kernel_rfl)) k0 bel lt0) (trodAll_cons_mk (Below.trod laid_out (by kernel_rfl) (of_decide_eq_true (by kernel_rfl)) k1 bel lt1) trodAll_mk0)), rfl, bel.frame _, fun h => by cases h⟩

theorem ProductTable_holds : Rows.FnExactProductTableSaid :=
  OpenClaim.holds_of_wide 3 Try.f3 rfl rfl rfl rfl rfl rfl rfl ⟨rfl, rfl, rfl, rfl, rfl⟩ rfl rfl rfl rfl rfl (by kernel_rfl) Try.func3 (by kernel_rfl)
    (of_decide_eq_true (by kernel_rfl)) (by unfold Func.isWrapper; first | (rw [if_pos (by decide +kernel)]; kernel_rfl) | (rw [if_neg (by decide +kernel)]; exact ⟨rfl, rfl⟩))
    (fun os started H enc _ => lifted_ProductTable os started H enc)

end Go.Proofs.Ytgnmfneinnojnaa
