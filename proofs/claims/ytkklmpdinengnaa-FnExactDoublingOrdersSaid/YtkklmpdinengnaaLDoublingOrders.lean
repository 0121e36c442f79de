/- For every input (there is none) the law FnExactDoublingOrders returns true. No condition. -/
import Derived.Test.YtkklmpdinengnaaOrder
namespace Go.Proofs.Ytkklmpdinengnaa
open Go.ChangeShapes Go.WideShapes Go.ChangeAt Go.RowKit Go.Shelf

def theDoublingOrders : List OrderT := [(⟨#[99, 97]⟩, ⟨#[97, 97, 99]⟩, false), (⟨#[99]⟩, ⟨#[]⟩, true), (⟨#[]⟩, ⟨#[99]⟩, false)]

set_option maxRecDepth 100000 in
set_option maxHeartbeats 400000 in
theorem specDoublingOrders_any (w : World) : Calls Try.prog 26 #[] w (MadeSl w 71 3 3 (cellsOrder theDoublingOrders)) := by
  go_enter Try.func26, Try.ntmps26
  go_wp2
  go_ret
  exact ⟨_, _, rfl, own_of_bk (cs := (cellsOrder theDoublingOrders).toArray) (Bk.new _ _ _) (Nat.le_refl _) rfl (by unfold maxLen; omega), (Below.refl _ _).alloc (Nat.le_refl _) _⟩

set_option maxRecDepth 100000 in
set_option maxHeartbeats 400000 in
theorem implDoublingOrders_any (w : World) : Calls Try.prog 27 #[] w (MadeSl w 71 3 3 (cellsOrder theDoublingOrders)) := by
  go_enter Try.func27, Try.ntmps27
  go_wp2
  go_ret
  exact ⟨_, _, rfl, own_of_bk (cs := (cellsOrder theDoublingOrders).toArray) (Bk.new _ _ _) (Nat.le_refl _) rfl (by unfold maxLen; omega), (Below.refl _ _).alloc (Nat.le_refl _) _⟩

set_option maxRecDepth 100000 in
set_option maxHeartbeats 1000000 in
theorem law_DoublingOrders (w : World) : Calls Try.prog 6 #[] w (Kept w (.bool true)) := by
  go_enter Try.func6, Try.ntmps6
  go_wp2_with fail
  refine (specDoublingOrders_any _).mono ?_
  rintro e w1 ⟨A1, c1, rfl, o1, b1⟩
  have t1 := b1
  go_wp2_with fail
  refine (implDoublingOrders_any _).mono ?_
  rintro e w2 ⟨A2, c2, rfl, o2, b2⟩
  have t2 := t1.trans (b2.mono t1.size)
  have o1' := own_keep o1 b2 (Nat.le_refl _)
  go_wp2_with fail
  refine (eqOrderS_any A2 A1 3 3 c2 c1 theDoublingOrders theDoublingOrders _ (Rd.of_own o2) (Rd.of_own o1') rfl rfl (by omega) (by omega)).mono ?_
  rintro e w3 ⟨rfl, b3⟩
  have t3 := t2.trans (b3.mono t2.size)
  have o1'' := own_keep o1' b3 (Nat.le_refl _)
  have o2' := own_keep o2 b3 (Nat.le_refl _)
  go_wp2_with fail
  refine (markOrderS_any A2 3 c2 _ 1 _ _ o2' (by omega) (by omega)).mono ?_
  rintro e w4 ⟨rfl, o3, g4⟩
  have t4 := below_marked t3 g4 o2' t1.size
  have o4 := o1''.kept g4 (own_apart o1 o2 (Nat.le_refl _))
  clear o1 o1' o1'' o2 o2' g4 b1 b2 b3
  go_wp2_with fail
  refine (heldOrderS_k A2 3 c2 1 _ (Rd.of_own o3) (by omega) (by omega)).mono ?_
  rintro e w5 ⟨rfl, b5⟩
  have t5 := t4.trans (b5.mono t4.size)
  have o5 := own_keep o3 b5 (Nat.le_refl _)
  have o6 := own_keep o4 b5 (Nat.le_refl _)
  clear o3 o4
  go_wp2_with fail
  refine (implDoublingOrders_any _).mono ?_
  rintro e w6 ⟨A3, c3, rfl, o7, b6⟩
  have t6 := t5.trans (b6.mono t5.size)
  have o8 := own_keep o5 b6 (Nat.le_refl _)
  have o9 := own_keep o6 b6 (Nat.le_refl _)
  clear o5 o6
  go_wp2_with fail
  refine (eqOrderS_any A3 A1 3 3 c3 c1 theDoublingOrders theDoublingOrders _ (Rd.of_own o7) (Rd.of_own o9) rfl rfl (by omega) (by omega)).mono ?_
  rintro e w7 ⟨rfl, b7⟩
  have t7 := t6.trans (b7.mono t6.size)
  have o10 := own_keep o8 b7 (Nat.le_refl _)
  clear o7 o8 o9
  go_wp2_with fail
  refine (heldOrderS_k A2 3 c2 1 _ (Rd.of_own o10) (by omega) (by omega)).mono ?_
  rintro e w8 ⟨rfl, b8⟩
  have t8 := t7.trans (b8.mono t7.size)
  go_wp2_with fail
  go_ret
  exact ⟨rfl, t8⟩

set_option maxRecDepth 100000 in
theorem lifted_DoublingOrders (os : Os) (started : os.Started) (H : Type) (enc : TypeId × Value → H) :
    ReturnsInHanded {} Try.checked os 6 .any (Rows.fnExactDoublingOrdersSpec.pre6 enc Try.prog Try.f6 Rows.fnExactDoublingOrdersRow.domain false) (Rows.fnExactDoublingOrdersSpec.post enc Try.prog Try.f6 false true false false) := by
  refine returnsInHanded_of_change (C := Try.checked) own_knob started (by kernel_rfl) Try.func6
    (ChangeSpec.witness6 (enc := enc) (C := Try.checked) false ⟨#[], #[], []⟩ 8 (by kernel_rfl) (by kernel_rfl) (by kernel_rfl) (by kernel_rfl)) ?_
  intro W base args ds gs before hval0 hW _ _
  clear hval0
  have hW' := hW
  obtain ⟨p, q, hA0, hV, rfl, hfz, hnd⟩ := hW
  have hA : DataW.TrodAll enc Try.prog W 0 (fun _ => true) true Try.f6.params.toList args.toList ds p := hA0
  rw [Try.params6] at hA
  obtain ⟨rfl, rfl, rfl⟩ := trodAll_none hA
  obtain ⟨rfl, rfl⟩ := trodVars_none hV
  clear hA0
  refine (law_DoublingOrders W ).mono fun e W' ⟨he, bel⟩ => ?_
  subst he
  exact ⟨_, rfl, _, _, _, [], _, [], hW', trodAll_mk1 (shut_bool Try.underlying4 _), trodAll_mk0, rfl, bel.frame _, fun h => by cases h⟩

theorem DoublingOrders_holds : Rows.FnExactDoublingOrdersSaid :=
  OpenClaim.holds_of_wide 6 Try.f6 rfl rfl rfl rfl rfl rfl rfl ⟨rfl, rfl, rfl, rfl, rfl⟩ rfl rfl rfl rfl rfl (by kernel_rfl) Try.func6 (by kernel_rfl)
    (of_decide_eq_true (by kernel_rfl)) (by unfold Func.isWrapper; first | (rw [if_pos (by decide +kernel)]; kernel_rfl) | (rw [if_neg (by decide +kernel)]; exact ⟨rfl, rfl⟩))
    (fun os started H enc _ => lifted_DoublingOrders os started H enc)

end Go.Proofs.Ytkklmpdinengnaa
