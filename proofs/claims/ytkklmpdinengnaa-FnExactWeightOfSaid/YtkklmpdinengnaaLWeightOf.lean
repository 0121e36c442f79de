/- For every input the law FnExactWeightOf returns true and leaves its arguments as they were. No condition. -/
import Derived.Test.YtkklmpdinengnaaWgt
import Derived.Test.YtkklmpdinengnaaLawBase
namespace Go.Proofs.Ytkklmpdinengnaa
open Go.ChangeShapes Go.WideShapes Go.ChangeAt Go.RowKit Go.Shelf

set_option maxRecDepth 100000 in
set_option maxHeartbeats 1000000 in
theorem law_WeightOf (w : World) (m : Int) (_ : (Lit.int .i64 m).wf = true) (A1 : Option Addr) (n1 c1 : Nat) (xs : List Int) (R1 : OpenSlInts w A1 n1 xs) (s : ByteArray) (hw2 : s.size ≤ maxLen) :
    Calls Try.prog 8 #[.int .i64 m, .slice A1 n1 c1, .string s] w (Kept w (.bool true)) := by
  obtain ⟨hr1, hn1, hm1, hz1⟩ := R1
  unfold maxLen at hm1
  by_cases hb1 : n1 ≤ 1048576
  rotate_left
  · skip
    go_enter Try.func8, Try.ntmps8
    go_wp2_with fail
    go_ret
    exact ⟨rfl, Below.refl _ _⟩
  unfold maxLen at hw2
  by_cases hb2 : s.size ≤ 1048576
  rotate_left
  · skip
    go_enter Try.func8, Try.ntmps8
    go_wp2_with fail
    go_ret
    exact ⟨rfl, Below.refl _ _⟩
  have Hn1 := Lib.hid hn1
  clear hn1
  go_enter Try.func8, Try.ntmps8
  go_wp2_with fail
  (with_reducible refine (toIntS_any A1 n1 c1 xs _ hr1 Hn1.out hb1).mono ?_)
  rintro e w1 ⟨B1, d1, rfl, ox1_1, b1⟩
  have t1 := b1
  go_wp2_with fail
  (with_reducible refine (specWeightOf_any m B1 n1 d1 xs s _ (Rd.of_own ox1_1) Hn1.out hb1 hb2).mono ?_)
  rintro e w2 ⟨rfl, b2⟩
  have t2 := t1.trans (b2.mono t1.size)
  have ox1_2 := own_keep ox1_1 b2 (Nat.le_refl _)
  clear ox1_1
  clear ox1_2
  go_wp2_with fail
  (with_reducible refine (toIntS_any A1 n1 c1 xs _ (hr1.keep t2) Hn1.out hb1).mono ?_)
  rintro e w3 ⟨B3, d3, rfl, ox3_3, b3⟩
  have t3 := t2.trans (b3.mono t2.size)
  go_wp2_with fail
  (with_reducible refine (implWeightOf_any m B3 n1 d3 xs s _ (Rd.of_own ox3_3) Hn1.out hb1 hb2).mono ?_)
  rintro e w4 ⟨rfl, b4⟩
  have t4 := t3.trans (b4.mono t3.size)
  have ox3_4 := own_keep ox3_3 b4 (Nat.le_refl _)
  clear ox3_3
  go_wp2_with fail
  (with_reducible refine (toIntS_any A1 n1 c1 xs _ (hr1.keep t4) Hn1.out hb1).mono ?_)
  rintro e w5 ⟨B5, d5, rfl, ox5_5, b5⟩
  have t5 := t4.trans (b5.mono t4.size)
  have a_x3_x5 := Lib.hid (own_apart ox3_4 ox5_5 (Nat.le_refl _))
  have a_x5_x3 := Lib.hid (own_apart' ox5_5 ox3_4 (Nat.le_refl _))
  have ox3_5 := own_keep ox3_4 b5 (Nat.le_refl _)
  clear ox3_4
  go_wp2_with fail
  (with_reducible refine (eqIntS_k B3 n1 d3 xs  B5 n1 d5 xs _ (Rd.of_own ox3_5) Hn1.out (le_big hb1) (Rd.of_own ox5_5) Hn1.out (le_big hb1)).mono ?_)
  rintro e w6 ⟨rfl, b6⟩
  have t6 := t5.trans (b6.mono t5.size)
  have ox3_6 := own_keep ox3_5 b6 (Nat.le_refl _)
  clear ox3_5
  have ox5_6 := own_keep ox5_5 b6 (Nat.le_refl _)
  clear ox5_5
  clear ox5_6
  go_wp2_with fail
  go_ret
  exact ⟨rfl, t6⟩
  
set_option maxRecDepth 100000 in
theorem lifted_WeightOf (os : Os) (started : os.Started) (H : Type) (enc : TypeId × Value → H) :
    ReturnsInHanded {} Try.checked os 8 .any (Rows.fnExactWeightOfSpec.pre6 enc Try.prog Try.f8 Rows.fnExactWeightOfRow.domain false) (Rows.fnExactWeightOfSpec.post enc Try.prog Try.f8 false true false false) := by
  refine returnsInHanded_of_change (C := Try.checked) own_knob started (by kernel_rfl) Try.func8
    (ChangeSpec.witness6 (enc := enc) (C := Try.checked) false ⟨#[], #[.int .i64 0, .slice none 0 0, .string ⟨#[]⟩], []⟩ 8 (by kernel_rfl) (by kernel_rfl) (by kernel_rfl) (by kernel_rfl)) ?_
  intro W base args ds gs before hval0 hW _ _
  have hval : ∀ (j : Nat) t v, Try.f8.params[j]? = some t → args[j]? = some v → Value.okWide Try.prog W .any base t v := hval0
  have hW' := hW
  obtain ⟨p, q, hA0, hV, rfl, hfz, hnd⟩ := hW
  have hA : DataW.TrodAll enc Try.prog W 0 (fun _ => true) true Try.f8.params.toList args.toList ds p := hA0
  rw [Try.params8] at hA hval
  obtain ⟨v0, vs0, d0, ds0, p0, q0, hargs, rfl, rfl, h0, r0⟩ := trodAll_cons hA
  obtain ⟨v1, vs1, d1, ds1, p1, q1, rfl, rfl, rfl, h1, r1⟩ := trodAll_cons r0
  obtain ⟨v2, vs2, d2, ds2, p2, q2, rfl, rfl, rfl, h2, r2⟩ := trodAll_cons r1
  obtain ⟨rfl, rfl, rfl⟩ := trodAll_nil r2
  obtain rfl : args = #[v0, v1, v2] := by cases args; simp_all
  obtain ⟨rfl, rfl⟩ := trodVars_none hV
  have k0 := h0
  have lt0 : ∀ x ∈ p0, x.block < W.heap.size := by obtain ⟨m, hm⟩ := k0; exact DataW.trod_lt m _ _ _ hm
  have k1 := h1
  have lt1 : ∀ x ∈ p1, x.block < W.heap.size := by obtain ⟨m, hm⟩ := k1; exact DataW.trod_lt m _ _ _ hm
  have k2 := h2
  have lt2 : ∀ x ∈ p2, x.block < W.heap.size := by obtain ⟨m, hm⟩ := k2; exact DataW.trod_lt m _ _ _ hm
  obtain ⟨a0, rfl, rfl, rfl, wf0⟩ := open_int Try.underlying3 (hval 0 3 v0 rfl rfl) h0
  obtain ⟨a1, len1, cap1, rfl⟩ := okWide_slice Try.underlying22 (hval 1 22 v1 rfl rfl)
  obtain ⟨z1, R1⟩ := open_intS h1
  obtain ⟨a2, rfl, rfl, rfl, wf2⟩ := Go.ChangeMaps.open_string Try.underlying9 (hval 2 9 v2 rfl rfl) h2
  clear hA0 hval0
  refine (law_WeightOf W a0 wf0 a1 len1 cap1 z1 R1 a2 wf2).mono fun e W' ⟨he, bel⟩ => ?_
  subst he
  exact ⟨_, rfl, _, _, _, [], _, [], hW', trodAll_mk1 (shut_bool Try.underlying4 _), (trodAll_cons_mk (Below.trod laid_out (by kernel_rfl) (of_decide_eq_true (by kernel_rfl)) k0 bel lt0) (trodAll_cons_mk (Below.trod laid_out (by kernel_rfl) (of_decide_eq_true (by kernel_rfl)) k1 bel lt1) (trodAll_cons_mk (Below.trod laid_out (by kernel_rfl) (of_decide_eq_true (by kernel_rfl)) k2 bel lt2) trodAll_mk0))), rfl, bel.frame _, fun h => by cases h⟩

theorem WeightOf_holds : Rows.FnExactWeightOfSaid :=
  OpenClaim.holds_of_wide 8 Try.f8 rfl rfl rfl rfl rfl rfl rfl ⟨rfl, rfl, rfl, rfl, rfl⟩ rfl rfl rfl rfl rfl (by kernel_rfl) Try.func8 (by kernel_rfl)
    (of_decide_eq_true (by kernel_rfl)) (by unfold Func.isWrapper; first | (rw [if_pos (by decide +kernel)]; kernel_rfl) | (rw [if_neg (by decide +kernel)]; exact ⟨rfl, rfl⟩))
    (fun os started H enc _ => lifted_WeightOf os started H enc)

end Go.Proofs.Ytkklmpdinengnaa
