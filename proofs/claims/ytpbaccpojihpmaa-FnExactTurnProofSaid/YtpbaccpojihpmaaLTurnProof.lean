/- For every input the law FnExactTurnProof returns true and leaves its arguments as they were. No condition. -/
import Derived.Test.YtpbaccpojihpmaaTurn
import Derived.Test.YtpbaccpojihpmaaLinkTo
import Derived.Test.YtpbaccpojihpmaaOpenArgs
import Derived.Test.YtpbaccpojihpmaaLawBase
namespace Go.Proofs.Ytpbaccpojihpmaa
open Go.ChangeShapes Go.WideShapes Go.ChangeAt Go.RowKit Go.Shelf

set_option maxRecDepth 100000 in
set_option maxHeartbeats 1000000 in
theorem law_TurnProof (w : World) (A0 : Option Addr) (n0 c0 : Nat) (ls : List LinkT) (R0 : OpenSlLinks w A0 n0 ls) :
    Calls Try.prog 3 #[.slice A0 n0 c0] w (Kept w (.bool true)) := by
  obtain ⟨hr0, hn0, hm0, hz0⟩ := R0
  have Hn0 := Lib.hid hn0
  clear hn0
  go_enter Try.func3, Try.ntmps3
  go_wp2_with fail
  (with_reducible refine (szLinkS_any A0 n0 c0 ls 1048576 _  Hn0.out hm0 (by omega) (by omega)).mono ?_)
  rintro e w1 ⟨rfl, b1⟩
  have t1 := b1
  by_cases ht0 : (1048576 : Int) - (totLink ls : Nat) < 0
  · rw [szLeft, if_pos ht0]
    go_wp2_with fail
    go_ret
    exact ⟨rfl, t1⟩
  rw [szLeft, if_neg ht0]
  have hs0 : totLink ls ≤ 1048576 := by omega
  have hb0 : n0 ≤ 1048576 := by have := tot_len_links ls; have := Hn0.out; omega
  have hl0 : (0 : Int) ≤ 1048576 - (totLink ls : Nat) := by omega
  clear ht0
  go_wp2_with fail
  (with_reducible refine (toLinkS_any A0 n0 c0 ls _ (hr0.keep t1) Hn0.out hb0).mono ?_)
  rintro e w2 ⟨B2, d2, rfl, ox2_2, b2⟩
  have t2 := t1.trans (b2.mono t1.size)
  go_wp2_with fail
  (with_reducible refine (specTurnProof_any B2 n0 d2 ls _ (Rd.of_own ox2_2) Hn0.out hb0).mono ?_)
  rintro e w3 ⟨B3, d3, rfl, og3_3, b3⟩
  have t3 := t2.trans (b3.mono t2.size)
  have a_x2_g3 := Lib.hid (own_apart ox2_2 og3_3 (Nat.le_refl _))
  have a_g3_x2 := Lib.hid (own_apart' og3_3 ox2_2 (Nat.le_refl _))
  have ox2_3 := own_keep ox2_2 b3 (Nat.le_refl _)
  clear ox2_2
  clear ox2_3
  go_wp2_with fail
  (with_reducible refine (toLinkS_any A0 n0 c0 ls _ (hr0.keep t3) Hn0.out hb0).mono ?_)
  rintro e w4 ⟨B4, d4, rfl, ox4_4, b4⟩
  have t4 := t3.trans (b4.mono t3.size)
  have a_g3_x4 := Lib.hid (own_apart og3_3 ox4_4 (Nat.le_refl _))
  have a_x4_g3 := Lib.hid (own_apart' ox4_4 og3_3 (Nat.le_refl _))
  have og3_4 := own_keep og3_3 b4 (Nat.le_refl _)
  clear og3_3
  go_wp2_with fail
  (with_reducible refine (implTurnProof_any B4 n0 d4 ls _ (Rd.of_own ox4_4) Hn0.out hb0).mono ?_)
  rintro e w5 ⟨B5, d5, rfl, og5_5, b5⟩
  have t5 := t4.trans (b5.mono t4.size)
  have a_g3_g5 := Lib.hid (own_apart og3_4 og5_5 (Nat.le_refl _))
  have a_g5_g3 := Lib.hid (own_apart' og5_5 og3_4 (Nat.le_refl _))
  have a_x4_g5 := Lib.hid (own_apart ox4_4 og5_5 (Nat.le_refl _))
  have a_g5_x4 := Lib.hid (own_apart' og5_5 ox4_4 (Nat.le_refl _))
  have og3_5 := own_keep og3_4 b5 (Nat.le_refl _)
  clear og3_4
  have ox4_5 := own_keep ox4_4 b5 (Nat.le_refl _)
  clear ox4_4
  go_wp2_with fail
  (with_reducible refine (eqLinkS_k B5 ((turnL ls).length) d5 (turnL ls)  B3 ((turnL ls).length) d3 (turnL ls) _ (Rd.of_own og5_5) rfl (le_big (turnL_le Hn0.out hb0)) (Rd.of_own og3_5) rfl (le_big (turnL_le Hn0.out hb0))).mono ?_)
  rintro e w6 ⟨rfl, b6⟩
  have t6 := t5.trans (b6.mono t5.size)
  have og3_6 := own_keep og3_5 b6 (Nat.le_refl _)
  clear og3_5
  have ox4_6 := own_keep ox4_5 b6 (Nat.le_refl _)
  clear ox4_5
  have og5_6 := own_keep og5_5 b6 (Nat.le_refl _)
  clear og5_5
  go_wp2_with fail
  (with_reducible refine (toLinkS_any A0 n0 c0 ls _ (hr0.keep t6) Hn0.out hb0).mono ?_)
  rintro e w7 ⟨B7, d7, rfl, ox7_7, b7⟩
  have t7 := t6.trans (b7.mono t6.size)
  have a_g3_x7 := Lib.hid (own_apart og3_6 ox7_7 (Nat.le_refl _))
  have a_x7_g3 := Lib.hid (own_apart' ox7_7 og3_6 (Nat.le_refl _))
  have a_x4_x7 := Lib.hid (own_apart ox4_6 ox7_7 (Nat.le_refl _))
  have a_x7_x4 := Lib.hid (own_apart' ox7_7 ox4_6 (Nat.le_refl _))
  have a_g5_x7 := Lib.hid (own_apart og5_6 ox7_7 (Nat.le_refl _))
  have a_x7_g5 := Lib.hid (own_apart' ox7_7 og5_6 (Nat.le_refl _))
  have og3_7 := own_keep og3_6 b7 (Nat.le_refl _)
  clear og3_6
  have ox4_7 := own_keep ox4_6 b7 (Nat.le_refl _)
  clear ox4_6
  have og5_7 := own_keep og5_6 b7 (Nat.le_refl _)
  clear og5_6
  go_wp2_with fail
  (with_reducible refine (eqLinkS_k B4 n0 d4 ls  B7 n0 d7 ls _ (Rd.of_own ox4_7) Hn0.out (le_big hb0) (Rd.of_own ox7_7) Hn0.out (le_big hb0)).mono ?_)
  rintro e w8 ⟨rfl, b8⟩
  have t8 := t7.trans (b8.mono t7.size)
  have og3_8 := own_keep og3_7 b8 (Nat.le_refl _)
  clear og3_7
  have ox4_8 := own_keep ox4_7 b8 (Nat.le_refl _)
  clear ox4_7
  have og5_8 := own_keep og5_7 b8 (Nat.le_refl _)
  clear og5_7
  have ox7_8 := own_keep ox7_7 b8 (Nat.le_refl _)
  clear ox7_7
  clear ox7_8
  go_wp2_with fail
  (with_reducible refine (markLinkS_any B4 n0 d4 _ 1 _ _ ox4_8 (by omega) (by have := hb0; omega)).mono ?_)
  rintro e w9 ⟨rfl, ox4_9, gr9⟩
  have t9 := below_marked t8 gr9 ox4_8 t3.size
  have og3_9 := og3_8.kept gr9 a_g3_x4.out
  clear og3_8
  have og5_9 := og5_8.kept gr9 a_g5_x4.out
  clear og5_8
  clear ox4_8 gr9
  go_wp2_with fail
  (with_reducible refine (eqLinkS_k B5 ((turnL ls).length) d5 (turnL ls)  B3 ((turnL ls).length) d3 (turnL ls) _ (Rd.of_own og5_9) rfl (le_big (turnL_le Hn0.out hb0)) (Rd.of_own og3_9) rfl (le_big (turnL_le Hn0.out hb0))).mono ?_)
  rintro e w10 ⟨rfl, b10⟩
  have t10 := t9.trans (b10.mono t9.size)
  have og3_10 := own_keep og3_9 b10 (Nat.le_refl _)
  clear og3_9
  have ox4_10 := own_keep ox4_9 b10 (Nat.le_refl _)
  clear ox4_9
  have og5_10 := own_keep og5_9 b10 (Nat.le_refl _)
  clear og5_9
  go_wp2_with fail
  (with_reducible refine (markLinkS_any B5 ((turnL ls).length) d5 _ 1 _ _ og5_10 (by omega) (by have := (turnL_le Hn0.out hb0); omega)).mono ?_)
  rintro e w11 ⟨rfl, og5_11, gr11⟩
  have t11 := below_marked t10 gr11 og5_10 t4.size
  have og3_11 := og3_10.kept gr11 a_g3_g5.out
  clear og3_10
  have ox4_11 := ox4_10.kept gr11 a_x4_g5.out
  clear ox4_10
  clear og5_10 gr11
  go_wp2_with fail
  (with_reducible refine (heldLinkS_k B5 ((turnL ls).length) d5 1 _ (Rd.of_own og5_11) (by omega) (by have := (turnL_le Hn0.out hb0); omega)).mono ?_)
  rintro e w12 ⟨rfl, b12⟩
  have t12 := t11.trans (b12.mono t11.size)
  have og3_12 := own_keep og3_11 b12 (Nat.le_refl _)
  clear og3_11
  have ox4_12 := own_keep ox4_11 b12 (Nat.le_refl _)
  clear ox4_11
  have og5_12 := own_keep og5_11 b12 (Nat.le_refl _)
  clear og5_11
  go_wp2_with fail
  (with_reducible refine (toLinkS_any A0 n0 c0 ls _ (hr0.keep t12) Hn0.out hb0).mono ?_)
  rintro e w13 ⟨B13, d13, rfl, ox13_13, b13⟩
  have t13 := t12.trans (b13.mono t12.size)
  have a_g3_x13 := Lib.hid (own_apart og3_12 ox13_13 (Nat.le_refl _))
  have a_x13_g3 := Lib.hid (own_apart' ox13_13 og3_12 (Nat.le_refl _))
  have a_x4_x13 := Lib.hid (own_apart ox4_12 ox13_13 (Nat.le_refl _))
  have a_x13_x4 := Lib.hid (own_apart' ox13_13 ox4_12 (Nat.le_refl _))
  have a_g5_x13 := Lib.hid (own_apart og5_12 ox13_13 (Nat.le_refl _))
  have a_x13_g5 := Lib.hid (own_apart' ox13_13 og5_12 (Nat.le_refl _))
  have og3_13 := own_keep og3_12 b13 (Nat.le_refl _)
  clear og3_12
  have ox4_13 := own_keep ox4_12 b13 (Nat.le_refl _)
  clear ox4_12
  have og5_13 := own_keep og5_12 b13 (Nat.le_refl _)
  clear og5_12
  go_wp2_with fail
  (with_reducible refine (implTurnProof_any B13 n0 d13 ls _ (Rd.of_own ox13_13) Hn0.out hb0).mono ?_)
  rintro e w14 ⟨B14, d14, rfl, og14_14, b14⟩
  have t14 := t13.trans (b14.mono t13.size)
  have a_g3_g14 := Lib.hid (own_apart og3_13 og14_14 (Nat.le_refl _))
  have a_g14_g3 := Lib.hid (own_apart' og14_14 og3_13 (Nat.le_refl _))
  have a_x4_g14 := Lib.hid (own_apart ox4_13 og14_14 (Nat.le_refl _))
  have a_g14_x4 := Lib.hid (own_apart' og14_14 ox4_13 (Nat.le_refl _))
  have a_g5_g14 := Lib.hid (own_apart og5_13 og14_14 (Nat.le_refl _))
  have a_g14_g5 := Lib.hid (own_apart' og14_14 og5_13 (Nat.le_refl _))
  have a_x13_g14 := Lib.hid (own_apart ox13_13 og14_14 (Nat.le_refl _))
  have a_g14_x13 := Lib.hid (own_apart' og14_14 ox13_13 (Nat.le_refl _))
  have og3_14 := own_keep og3_13 b14 (Nat.le_refl _)
  clear og3_13
  have ox4_14 := own_keep ox4_13 b14 (Nat.le_refl _)
  clear ox4_13
  have og5_14 := own_keep og5_13 b14 (Nat.le_refl _)
  clear og5_13
  have ox13_14 := own_keep ox13_13 b14 (Nat.le_refl _)
  clear ox13_13
  clear ox13_14
  go_wp2_with fail
  (with_reducible refine (eqLinkS_k B14 ((turnL ls).length) d14 (turnL ls)  B3 ((turnL ls).length) d3 (turnL ls) _ (Rd.of_own og14_14) rfl (le_big (turnL_le Hn0.out hb0)) (Rd.of_own og3_14) rfl (le_big (turnL_le Hn0.out hb0))).mono ?_)
  rintro e w15 ⟨rfl, b15⟩
  have t15 := t14.trans (b15.mono t14.size)
  have og3_15 := own_keep og3_14 b15 (Nat.le_refl _)
  clear og3_14
  have ox4_15 := own_keep ox4_14 b15 (Nat.le_refl _)
  clear ox4_14
  have og5_15 := own_keep og5_14 b15 (Nat.le_refl _)
  clear og5_14
  have og14_15 := own_keep og14_14 b15 (Nat.le_refl _)
  clear og14_14
  go_wp2_with fail
  (with_reducible refine (heldLinkS_k B5 ((turnL ls).length) d5 1 _ (Rd.of_own og5_15) (by omega) (by have := (turnL_le Hn0.out hb0); omega)).mono ?_)
  rintro e w16 ⟨rfl, b16⟩
  have t16 := t15.trans (b16.mono t15.size)
  have og3_16 := own_keep og3_15 b16 (Nat.le_refl _)
  clear og3_15
  have ox4_16 := own_keep ox4_15 b16 (Nat.le_refl _)
  clear ox4_15
  have og5_16 := own_keep og5_15 b16 (Nat.le_refl _)
  clear og5_15
  have og14_16 := own_keep og14_15 b16 (Nat.le_refl _)
  clear og14_15
  go_wp2_with fail
  go_ret
  exact ⟨rfl, t16⟩
  
set_option maxRecDepth 100000 in
theorem lifted_TurnProof (os : Os) (started : os.Started) (H : Type) (enc : TypeId × Value → H) :
    ReturnsInHanded {} Try.checked os 3 .any (Rows.fnExactTurnProofSpec.pre6 enc Try.prog Try.f3 Rows.fnExactTurnProofRow.domain false) (Rows.fnExactTurnProofSpec.post enc Try.prog Try.f3 false true false false) := by
  refine returnsInHanded_of_change (C := Try.checked) own_knob started (by kernel_rfl) Try.func3
    (ChangeSpec.witness6 (enc := enc) (C := Try.checked) false ⟨#[], #[.slice none 0 0], []⟩ 8 (by kernel_rfl) (by kernel_rfl) (by kernel_rfl) (by kernel_rfl)) ?_
  intro W base args ds gs before hval0 hW _ _
  have hval : ∀ (j : Nat) t v, Try.f3.params[j]? = some t → args[j]? = some v → Value.okWide Try.prog W .any base t v := hval0
  have hW' := hW
  obtain ⟨p, q, hA0, hV, rfl, hfz, hnd⟩ := hW
  have hA : DataW.TrodAll enc Try.prog W 0 (fun _ => true) true Try.f3.params.toList args.toList ds p := hA0
  rw [Try.params3] at hA hval
  obtain ⟨v0, vs0, d0, ds0, p0, q0, hargs, rfl, rfl, h0, r0⟩ := trodAll_cons hA
  obtain ⟨rfl, rfl, rfl⟩ := trodAll_nil r0
  obtain rfl : args = #[v0] := by cases args; simp_all
  obtain ⟨rfl, rfl⟩ := trodVars_none hV
  have k0 := h0
  have lt0 : ∀ x ∈ p0, x.block < W.heap.size := by obtain ⟨m, hm⟩ := k0; exact DataW.trod_lt m _ _ _ hm
  obtain ⟨a0, len0, cap0, rfl⟩ := okWide_slice Try.underlying22 (hval 0 22 v0 rfl rfl)
  obtain ⟨z0, R0⟩ := open_linkS h0
  clear hA0 hval0
  refine (law_TurnProof W a0 len0 cap0 z0 R0).mono fun e W' ⟨he, bel⟩ => ?_
  subst he
  exact ⟨_, rfl, _, _, _, [], _, [], hW', trodAll_mk1 (shut_bool Try.underlying4 _), (trodAll_cons_mk (Below.trod laid_out (by kernel_rfl) (of_decide_eq_true (by kernel_rfl)) k0 bel lt0) trodAll_mk0), rfl, bel.frame _, fun h => by cases h⟩

theorem TurnProof_holds : Rows.FnExactTurnProofSaid :=
  OpenClaim.holds_of_wide 3 Try.f3 rfl rfl rfl rfl rfl rfl rfl ⟨rfl, rfl, rfl, rfl, rfl⟩ rfl rfl rfl rfl rfl (by kernel_rfl) Try.func3 (by kernel_rfl)
    (of_decide_eq_true (by kernel_rfl)) (by unfold Func.isWrapper; first | (rw [if_pos (by decide +kernel)]; kernel_rfl) | (rw [if_neg (by decide +kernel)]; exact ⟨rfl, rfl⟩))
    (fun os started H enc _ => lifted_TurnProof os started H enc)

end Go.Proofs.Ytpbaccpojihpmaa
