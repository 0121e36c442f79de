/- For every input the law FnExactWeightsOk returns true and leaves its arguments as they were. No condition. -/
import Derived.Test.YtkklmpdinengnaaWts
import Derived.ProofKit
import Derived.OpenShut
namespace Go.Proofs.Ytkklmpdinengnaa
open Go.ChangeShapes Go.WideShapes Go.ChangeAt Go.RowKit Go.Shelf

theorem law_WeightsOk (w : World) (m : Int) (_ : (Lit.int .i64 m).wf = true) (A : Option Addr) (n c : Nat) (zs : List Int) (R : Rd w A (ints zs) ∧ n = zs.length ∧ n ≤ maxLen ∧ ∀ z ∈ zs, (Lit.int .i64 z).wf = true) :
    Calls Try.prog 3 #[.int .i64 m, .slice A n c] w (Kept w (.bool true)) := by
  obtain ⟨hr, hn, _, _⟩ := R
  by_cases hb : n ≤ 1048576
  · skip
    have Hn := Lib.hid hn
    clear hn
    go_enter Try.func3, Try.ntmps3
    go_wp2_with fail
    refine (toIntS_any A n c zs _ hr Hn.out hb).mono ?_
    rintro e w1 ⟨A1, c1, rfl, o1, b1⟩
    have t1 := b1
    go_wp2_with fail
    refine (specWts_any m A1 n c1 zs _ (Rd.of_own o1) Hn.out hb).mono ?_
    rintro e w2 ⟨rfl, b2⟩
    have t2 := t1.trans (b2.mono t1.size)
    go_wp2_with fail
    refine (toIntS_any A n c zs _ (hr.keep t2) Hn.out hb).mono ?_
    rintro e w3 ⟨A2, c2, rfl, o2, b3⟩
    have t3 := t2.trans (b3.mono t2.size)
    go_wp2_with fail
    refine (implWts_any m A2 n c2 zs _ (Rd.of_own o2) Hn.out hb).mono ?_
    rintro e w4 ⟨rfl, b4⟩
    have t4 := t3.trans (b4.mono t3.size)
    go_wp2_with fail
    refine (toIntS_any A n c zs _ (hr.keep t4) Hn.out hb).mono ?_
    rintro e w5 ⟨A3, c3, rfl, o3, b5⟩
    have t5 := t4.trans (b5.mono t4.size)
    go_wp2_with fail
    refine (eqIntS_any A2 A3 n n c2 c3 zs zs _ (Rd.of_own (own_keep o2 (b4.trans (b5.mono b4.size)) (Nat.le_refl _))) (Rd.of_own o3) Hn.out Hn.out hb (by omega)).mono ?_
    rintro e w' ⟨rfl, q, rfl⟩
    go_wp2_with fail
    go_ret
    exact ⟨rfl, below_drewN t5 _⟩
  · skip
    go_enter Try.func3, Try.ntmps3
    go_wp2_with fail
    go_ret
    exact ⟨rfl, Below.refl _ _⟩

set_option maxRecDepth 100000 in
theorem lifted_WeightsOk (os : Os) (started : os.Started) (H : Type) (enc : TypeId × Value → H) :
    ReturnsInHanded {} Try.checked os 3 .any (Rows.fnExactWeightsOkSpec.pre6 enc Try.prog Try.f3 Rows.fnExactWeightsOkRow.domain false) (Rows.fnExactWeightsOkSpec.post enc Try.prog Try.f3 false true false false) := by
  refine returnsInHanded_of_change (C := Try.checked) own_knob started (by kernel_rfl) Try.func3
    (ChangeSpec.witness6 (enc := enc) (C := Try.checked) false ⟨#[], #[.int .i64 0, .slice none 0 0], []⟩ 8 (by kernel_rfl) (by kernel_rfl) (by kernel_rfl) (by kernel_rfl)) ?_
  intro W base args ds gs before hval0 hW _ _
  have hval : ∀ (j : Nat) t v, Try.f3.params[j]? = some t → args[j]? = some v → Value.okWide Try.prog W .any base t v := hval0
  have hW' := hW
  obtain ⟨p, q, hA0, hV, rfl, hfz, hnd⟩ := hW
  have hA : DataW.TrodAll enc Try.prog W 0 (fun _ => true) true Try.f3.params.toList args.toList ds p := hA0
  rw [Try.params3] at hA hval
  obtain ⟨v0, vs0, d0, ds0, p0, q0, hargs, rfl, rfl, h0, r0⟩ := trodAll_cons hA
  obtain ⟨v1, vs1, d1, ds1, p1, q1, rfl, rfl, rfl, h1, r1⟩ := trodAll_cons r0
  obtain ⟨rfl, rfl, rfl⟩ := trodAll_nil r1
  obtain rfl : args = #[v0, v1] := by cases args; simp_all
  obtain ⟨rfl, rfl⟩ := trodVars_none hV
  have k0 := h0
  have lt0 : ∀ x ∈ p0, x.block < W.heap.size := by obtain ⟨m, hm⟩ := k0; exact DataW.trod_lt m _ _ _ hm
  have k1 := h1
  have lt1 : ∀ x ∈ p1, x.block < W.heap.size := by obtain ⟨m, hm⟩ := k1; exact DataW.trod_lt m _ _ _ hm
  obtain ⟨a0, rfl, rfl, rfl, wf0⟩ := open_int Try.underlying3 (hval 0 3 v0 rfl rfl) h0
  obtain ⟨a1, len1, cap1, rfl⟩ := okWide_slice Try.underlying22 (hval 1 22 v1 rfl rfl)
  obtain ⟨z1, R1⟩ := open_intS h1
  clear hA0 hval0
  refine (law_WeightsOk W a0 wf0 a1 len1 cap1 z1 R1).mono fun e W' ⟨he, bel⟩ => ?_
  subst he
  exact ⟨_, rfl, _, _, _, [], _, [], hW', trodAll_mk1 (shut_bool Try.underlying4 _), (trodAll_cons_mk (Below.trod laid_out (by kernel_rfl) (of_decide_eq_true (by kernel_rfl)) k0 bel lt0) (trodAll_cons_mk (Below.trod laid_out (by kernel_rfl) (of_decide_eq_true (by kernel_rfl)) k1 bel lt1) trodAll_mk0)), rfl, bel.frame _, fun h => by cases h⟩

theorem WeightsOk_holds : Rows.FnExactWeightsOkSaid :=
  OpenClaim.holds_of_wide 3 Try.f3 rfl rfl rfl rfl rfl rfl rfl ⟨rfl, rfl, rfl, rfl, rfl⟩ rfl rfl rfl rfl rfl (by kernel_rfl) Try.func3 (by kernel_rfl)
    (of_decide_eq_true (by kernel_rfl)) (by unfold Func.isWrapper; first | (rw [if_pos (by decide +kernel)]; kernel_rfl) | (rw [if_neg (by decide +kernel)]; exact ⟨rfl, rfl⟩))
    (fun os started H enc _ => lifted_WeightsOk os started H enc)

end Go.Proofs.Ytkklmpdinengnaa
