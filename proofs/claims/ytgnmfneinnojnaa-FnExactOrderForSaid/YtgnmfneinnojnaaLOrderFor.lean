/- For every input the law FnExactOrderFor returns true and leaves its arguments as they were. No condition. -/
import Derived.Test.YtgnmfneinnojnaaOrdFor
import Derived.Test.YtgnmfneinnojnaaOrderTo
import Derived.Test.YtgnmfneinnojnaaOpenArgs
import Derived.Test.YtgnmfneinnojnaaLawBase
import Derived.HandedShaped
import Derived.Shelf.Vars
namespace Go.Proofs.Ytgnmfneinnojnaa
open Go.ChangeShapes Go.WideShapes Go.ChangeAt Go.RowKit Go.Shelf

set_option maxRecDepth 100000 in
set_option maxHeartbeats 1000000 in
theorem law_OrderFor (w : World) (A0 : Option Addr) (n0 c0 : Nat) (xs : List OrderT) (R0 : OpenSlOrders w A0 n0 xs) (s : ByteArray) (hw1 : s.size ≤ maxLen) (mx : Int) (hmx : w.cell? ⟨0, 0, none⟩ = some (.int .i64 mx)) :
    Calls Try.prog 5 #[.slice A0 n0 c0, .string s] w (Kept w (.bool true)) := by
  obtain ⟨hr0, hn0, hm0, hz0⟩ := R0
  unfold maxLen at hw1
  by_cases hb1 : s.size ≤ 1048576
  rotate_left
  · skip
    go_enter Try.func5, Try.ntmps5
    go_wp2_with fail
    go_ret
    exact ⟨rfl, (by repeat (first | exact Below.refl _ _ | (refine Below.alloc ?_ (by simp <;> omega) _)))⟩
  have Hn0 := Lib.hid hn0
  clear hn0
  go_enter Try.func5, Try.ntmps5
  go_wp2_with fail
  (with_reducible refine (szOrderS_any A0 n0 c0 xs 1048576 _ hr0 Hn0.out hm0 (by omega) (by omega) hz0).mono ?_)
  rintro e w1 ⟨rfl, b1⟩
  have t1 := b1
  by_cases ht0 : (1048576 : Int) - (totOrder xs : Nat) < 0
  · rw [szLeft, if_pos ht0]
    go_wp2_with fail
    go_ret
    exact ⟨rfl, t1⟩
  rw [szLeft, if_neg ht0]
  have hs0 : totOrder xs ≤ 1048576 := by omega
  have hb0 : n0 ≤ 1048576 := by have := tot_len_orders xs; have := Hn0.out; omega
  have hy0 := tot_all_orders xs hs0
  have hl0 : (0 : Int) ≤ 1048576 - (totOrder xs : Nat) := by omega
  clear ht0
  go_wp2_with fail
  (with_reducible refine (toOrderS_any A0 n0 c0 xs _ (hr0.keep t1) Hn0.out hb0 hy0).mono ?_)
  rintro e w2 ⟨B2, d2, rfl, ox2_2, b2⟩
  have t2 := t1.trans (b2.mono t1.size)
  go_wp2_with fail
  (with_reducible refine (specOrderFor_any B2 n0 d2 xs s _ (Rd.of_own ox2_2) Hn0.out hb0 hy0 hb1 (keepM hmx (by assumption))).mono ?_)
  rintro e w3 ⟨rfl, b3⟩
  have t3 := t2.trans (b3.mono t2.size)
  have ox2_3 := own_keep ox2_2 b3 (Nat.le_refl _)
  clear ox2_2
  clear ox2_3
  go_wp2_with fail
  (with_reducible refine (toOrderS_any A0 n0 c0 xs _ (hr0.keep t3) Hn0.out hb0 hy0).mono ?_)
  rintro e w4 ⟨B4, d4, rfl, ox4_4, b4⟩
  have t4 := t3.trans (b4.mono t3.size)
  go_wp2_with fail
  (with_reducible refine (implOrderFor_any B4 n0 d4 xs s _ (Rd.of_own ox4_4) Hn0.out hb0 hy0 hb1 (keepM hmx (by assumption))).mono ?_)
  rintro e w5 ⟨rfl, b5⟩
  have t5 := t4.trans (b5.mono t4.size)
  have ox4_5 := own_keep ox4_4 b5 (Nat.le_refl _)
  clear ox4_4
  go_wp2_with fail
  (with_reducible refine (toOrderS_any A0 n0 c0 xs _ (hr0.keep t5) Hn0.out hb0 hy0).mono ?_)
  rintro e w6 ⟨B6, d6, rfl, ox6_6, b6⟩
  have t6 := t5.trans (b6.mono t5.size)
  have a_x4_x6 := Lib.hid (own_apart ox4_5 ox6_6 (Nat.le_refl _))
  have a_x6_x4 := Lib.hid (own_apart' ox6_6 ox4_5 (Nat.le_refl _))
  have ox4_6 := own_keep ox4_5 b6 (Nat.le_refl _)
  clear ox4_5
  go_wp2_with fail
  (with_reducible refine (eqOrderS_k B4 n0 d4 xs  B6 n0 d6 xs _ (Rd.of_own ox4_6) Hn0.out (le_big hb0) (Rd.of_own ox6_6) Hn0.out (le_big hb0)).mono ?_)
  rintro e w7 ⟨rfl, b7⟩
  have t7 := t6.trans (b7.mono t6.size)
  have ox4_7 := own_keep ox4_6 b7 (Nat.le_refl _)
  clear ox4_6
  have ox6_7 := own_keep ox6_6 b7 (Nat.le_refl _)
  clear ox6_6
  clear ox6_7
  go_wp2_with fail
  go_ret
  exact ⟨rfl, t7⟩
  
set_option maxRecDepth 100000 in
theorem lifted_OrderFor (os : Os) (started : os.Started) (H : Type) (enc : TypeId × Value → H) :
    ReturnsInHanded {} Try.checked os 5 .any (Rows.fnExactOrderForSpec.pre6 enc Try.prog Try.f5 Rows.fnExactOrderForRow.domain false) (Rows.fnExactOrderForSpec.post enc Try.prog Try.f5 false true false false) := by
  refine returnsInHanded_of_change_shaped (C := Try.checked) own_knob started (by kernel_rfl) Try.func5
    (ChangeSpec.witness6 (enc := enc) (C := Try.checked) false ⟨#[], #[.slice none 0 0, .string ⟨#[]⟩], []⟩ 8 (by kernel_rfl) (by kernel_rfl) (by kernel_rfl) (by kernel_rfl)) ?_
  intro W base args ds gs before hval0 hW _ _ hsh _
  have hval : ∀ (j : Nat) t v, Try.f5.params[j]? = some t → args[j]? = some v → Value.okWide Try.prog W .any base t v := hval0
  have hW' := hW
  obtain ⟨p, q, hA0, hV, rfl, hfz, hnd⟩ := hW
  have hA : DataW.TrodAll enc Try.prog W 0 (fun _ => true) true Try.f5.params.toList args.toList ds p := hA0
  rw [Try.params5] at hA hval
  obtain ⟨v0, vs0, d0, ds0, p0, q0, hargs, rfl, rfl, h0, r0⟩ := trodAll_cons hA
  obtain ⟨v1, vs1, d1, ds1, p1, q1, rfl, rfl, rfl, h1, r1⟩ := trodAll_cons r0
  obtain ⟨rfl, rfl, rfl⟩ := trodAll_nil r1
  obtain rfl : args = #[v0, v1] := by cases args; simp_all
  obtain ⟨rfl, rfl⟩ := trodVars_none hV
  have k0 := h0
  have lt0 : ∀ x ∈ p0, x.block < W.heap.size := by obtain ⟨m, hm⟩ := k0; exact DataW.trod_lt m _ _ _ hm
  have k1 := h1
  have lt1 : ∀ x ∈ p1, x.block < W.heap.size := by obtain ⟨m, hm⟩ := k1; exact DataW.trod_lt m _ _ _ hm
  obtain ⟨a0, len0, cap0, rfl⟩ := okWide_slice Try.underlying33 (hval 0 33 v0 rfl rfl)
  obtain ⟨z0, R0⟩ := open_orderS h0
  obtain ⟨a1, rfl, rfl, rfl, wf1⟩ := Go.ChangeMaps.open_string Try.underlying9 (hval 1 9 v1 rfl rfl) h1
  clear hA0 hval0
  obtain ⟨mx, hmx⟩ := Go.Proofs.cell_of_shapedOpen_int (P := Try.prog) (g := 0) (zero := #[.int .i64 0]) (t := 3) hsh (of_decide_eq_true (by kernel_rfl)) (by kernel_rfl) rfl (by kernel_rfl) (by kernel_rfl) Try.underlying3
  refine (law_OrderFor W a0 len0 cap0 z0 R0 a1 wf1 mx hmx).mono fun e W' ⟨he, bel⟩ => ?_
  subst he
  exact ⟨_, rfl, _, _, _, [], _, [], hW', trodAll_mk1 (shut_bool Try.underlying4 _), (trodAll_cons_mk (Below.trod laid_out (by kernel_rfl) (of_decide_eq_true (by kernel_rfl)) k0 bel lt0) (trodAll_cons_mk (Below.trod laid_out (by kernel_rfl) (of_decide_eq_true (by kernel_rfl)) k1 bel lt1) trodAll_mk0)), rfl, bel.frame _, fun h => by cases h⟩

theorem OrderFor_holds : Rows.FnExactOrderForSaid :=
  OpenClaim.holds_of_wide 5 Try.f5 rfl rfl rfl rfl rfl rfl rfl ⟨rfl, rfl, rfl, rfl, rfl⟩ rfl rfl rfl rfl rfl (by kernel_rfl) Try.func5 (by kernel_rfl)
    (of_decide_eq_true (by kernel_rfl)) (by unfold Func.isWrapper; first | (rw [if_pos (by decide +kernel)]; kernel_rfl) | (rw [if_neg (by decide +kernel)]; exact ⟨rfl, rfl⟩))
    (fun os started H enc _ => lifted_OrderFor os started H enc)

end Go.Proofs.Ytgnmfneinnojnaa
