/- For every input the law FnExactFormatTag returns true and leaves its arguments as they were. No condition. -/
import Derived.Test.YtgceabbeeobmgaaDoorFmtTag
import Derived.Test.YtgceabbeeobmgaaDoorTag
import Derived.Test.YtgceabbeeobmgaaDoorOpenArgs
import Derived.Test.YtgceabbeeobmgaaDoorLawBase
import Derived.Test.YtgceabbeeobmgaaDoorTie
import Derived.Test.YtgceabbeeobmgaaDoorCards
import Derived.LaidMore
import Derived.SevenTiedAt
import Derived.Stop.Joined
import Derived.ProofKit
import Derived.OpenShut
namespace Go.Proofs.YtgceabbeeobmgaaDoor
open Go.ChangeShapes Go.WideShapes Go.ChangeAt Go.RowKit Go.Shelf

set_option maxRecDepth 100000 in
set_option maxHeartbeats 1000000 in
theorem law_FormatTag (w : World) (v0 : Value) (z0 : Int × Option Addr × Nat × Nat × List ByteArray) (R0 : OpenTag w v0 z0) :
    Calls Tryd.prog 4 #[v0] w (Kept w (.bool true)) := by
  obtain ⟨l0, A0, n0, c0, t⟩ := z0
  obtain ⟨rfl, hr0, hn0, hm0, hz0⟩ := R0
  dsimp only at hr0 hn0 hm0 hz0
  have Hn0 := Lib.hid hn0
  clear hn0
  go_enter Tryd.func4, Tryd.ntmps4
  go_wp2_with fail
  generalize hq : (w.alloc (.cells #[.int .i64 l0, .slice A0 n0 c0] 39)) = w1
  have b1 : Below w.heap.size w w1 := by rw [← hq]; exact ((Below.refl _ _).alloc (by simp <;> omega) _)
  have t1 := b1
  have xp0_1 : Bk w1 (w.heap.size) 39 #[.int .i64 l0, .slice A0 n0 c0] := by rw [← hq]; exact ((Bk.new w 39 #[.int .i64 l0, .slice A0 n0 c0])).cast (by simp)
  clear hq
  have cp0_0 : w1.cell? ⟨w.heap.size, 0, none⟩ = some (.int .i64 l0) := by rw [xp0_1.cell]; rfl
  have cp0_1 : w1.cell? ⟨w.heap.size, 1, none⟩ = some (.slice A0 n0 c0) := by rw [xp0_1.cell]; rfl
  have lp0 := xp0_1.lt
  have XP0_1 := Lib.hid xp0_1
  clear xp0_1
  (try go_wp2_with fail)
  (with_reducible refine (szTag_any l0 A0 n0 c0 t 1048576 _ (hr0.keep t1) Hn0.out hm0 (by omega) (by omega) hz0).mono ?_)
  rintro e w2 ⟨rfl, b2⟩
  have t2 := t1.trans (b2.mono t1.size)
  clear lp0 cp0_0 cp0_1
  have xp0_2 := XP0_1.out.below b2 XP0_1.out.lt
  clear XP0_1
  have cp0_0 : w2.cell? ⟨w.heap.size, 0, none⟩ = some (.int .i64 l0) := by rw [xp0_2.cell]; rfl
  have cp0_1 : w2.cell? ⟨w.heap.size, 1, none⟩ = some (.slice A0 n0 c0) := by rw [xp0_2.cell]; rfl
  have lp0 := xp0_2.lt
  have XP0_2 := Lib.hid xp0_2
  clear xp0_2
  by_cases ht0 : (1048576 : Int) - (totString t : Nat) < 0
  · rw [szLeft, if_pos ht0]
    go_wp2_with fail
    go_ret
    exact ⟨rfl, t2⟩
  rw [szLeft, if_neg ht0]
  have hs0 : totString t ≤ 1048576 := by omega
  have hb0 : n0 ≤ 1048576 := by have := tot_len_strs t; have := Hn0.out; omega
  have hy0 := tot_all_strs t hs0
  have hl0 : (0 : Int) ≤ 1048576 - (totString t : Nat) := by omega
  clear ht0
  go_wp2_with fail
  (with_reducible refine (toTag_any l0 A0 n0 c0 t _ (hr0.keep t2) Hn0.out hb0 hy0).mono ?_)
  rintro e w3 ⟨B3, d3, rfl, ox3_3, b3⟩
  have t3 := t2.trans (b3.mono t2.size)
  clear lp0 cp0_0 cp0_1
  have xp0_3 := XP0_2.out.below b3 XP0_2.out.lt
  clear XP0_2
  have cp0_0 : w3.cell? ⟨w.heap.size, 0, none⟩ = some (.int .i64 l0) := by rw [xp0_3.cell]; rfl
  have cp0_1 : w3.cell? ⟨w.heap.size, 1, none⟩ = some (.slice A0 n0 c0) := by rw [xp0_3.cell]; rfl
  have lp0 := xp0_3.lt
  have XP0_3 := Lib.hid xp0_3
  clear xp0_3
  go_wp2_with fail
  (with_reducible refine (specFormatTag_any l0 B3 n0 d3 t _ (Rd.of_own ox3_3) Hn0.out hb0 hy0).mono ?_)
  rintro e w4 ⟨rfl, b4⟩
  have t4 := t3.trans (b4.mono t3.size)
  clear lp0 cp0_0 cp0_1
  have ox3_4 := own_keep ox3_3 b4 (Nat.le_refl _)
  clear ox3_3
  have xp0_4 := XP0_3.out.below b4 XP0_3.out.lt
  clear XP0_3
  have cp0_0 : w4.cell? ⟨w.heap.size, 0, none⟩ = some (.int .i64 l0) := by rw [xp0_4.cell]; rfl
  have cp0_1 : w4.cell? ⟨w.heap.size, 1, none⟩ = some (.slice A0 n0 c0) := by rw [xp0_4.cell]; rfl
  have lp0 := xp0_4.lt
  have XP0_4 := Lib.hid xp0_4
  clear xp0_4
  clear ox3_4
  go_wp2_with fail
  (with_reducible refine (toTag_any l0 A0 n0 c0 t _ (hr0.keep t4) Hn0.out hb0 hy0).mono ?_)
  rintro e w5 ⟨B5, d5, rfl, ox5_5, b5⟩
  have t5 := t4.trans (b5.mono t4.size)
  clear lp0 cp0_0 cp0_1
  have xp0_5 := XP0_4.out.below b5 XP0_4.out.lt
  clear XP0_4
  have cp0_0 : w5.cell? ⟨w.heap.size, 0, none⟩ = some (.int .i64 l0) := by rw [xp0_5.cell]; rfl
  have cp0_1 : w5.cell? ⟨w.heap.size, 1, none⟩ = some (.slice A0 n0 c0) := by rw [xp0_5.cell]; rfl
  have lp0 := xp0_5.lt
  have XP0_5 := Lib.hid xp0_5
  clear xp0_5
  go_wp2_with fail
  generalize hq : w5.alloc (.cells #[.int .i64 l0, .slice B5 n0 d5] 42) = w6
  have b6 : Below w5.heap.size w5 w6 := by rw [← hq]; exact (Below.refl _ _).alloc (Nat.le_refl _) _
  have t6 := t5.trans (b6.mono t5.size)
  have xv6_6 : Bk w6 w5.heap.size 42 #[.int .i64 l0, .slice B5 n0 d5] := by rw [← hq]; exact Bk.new _ _ _
  clear hq
  clear lp0 cp0_0 cp0_1
  have ox5_6 := own_keep ox5_5 b6 (Nat.le_refl _)
  clear ox5_5
  have xp0_6 := XP0_5.out.below b6 XP0_5.out.lt
  clear XP0_5
  have cp0_0 : w6.cell? ⟨w.heap.size, 0, none⟩ = some (.int .i64 l0) := by rw [xp0_6.cell]; rfl
  have cp0_1 : w6.cell? ⟨w.heap.size, 1, none⟩ = some (.slice A0 n0 c0) := by rw [xp0_6.cell]; rfl
  have lp0 := xp0_6.lt
  have XP0_6 := Lib.hid xp0_6
  clear xp0_6
  have cv6_0 : w6.cell? ⟨w5.heap.size, 0, none⟩ = some (.int .i64 l0) := by rw [xv6_6.cell]; rfl
  have cv6_1 : w6.cell? ⟨w5.heap.size, 1, none⟩ = some (.slice B5 n0 d5) := by rw [xv6_6.cell]; rfl
  have lv6 := xv6_6.lt
  have XV6_6 := Lib.hid xv6_6
  clear xv6_6
  (try go_wp2_with fail)
  (with_reducible refine (implFormatTag_any l0 B5 n0 d5 t _ (Rd.of_own ox5_6) Hn0.out hb0 hy0).mono ?_)
  rintro e w7 ⟨rfl, b7⟩
  have t7 := t6.trans (b7.mono t6.size)
  clear lp0 cp0_0 cp0_1
  clear lv6 cv6_0 cv6_1
  have ox5_7 := own_keep ox5_6 b7 (Nat.le_refl _)
  clear ox5_6
  have xp0_7 := XP0_6.out.below b7 XP0_6.out.lt
  clear XP0_6
  have xv6_7 := XV6_6.out.below b7 XV6_6.out.lt
  clear XV6_6
  have cp0_0 : w7.cell? ⟨w.heap.size, 0, none⟩ = some (.int .i64 l0) := by rw [xp0_7.cell]; rfl
  have cp0_1 : w7.cell? ⟨w.heap.size, 1, none⟩ = some (.slice A0 n0 c0) := by rw [xp0_7.cell]; rfl
  have lp0 := xp0_7.lt
  have XP0_7 := Lib.hid xp0_7
  clear xp0_7
  have cv6_0 : w7.cell? ⟨w5.heap.size, 0, none⟩ = some (.int .i64 l0) := by rw [xv6_7.cell]; rfl
  have cv6_1 : w7.cell? ⟨w5.heap.size, 1, none⟩ = some (.slice B5 n0 d5) := by rw [xv6_7.cell]; rfl
  have lv6 := xv6_7.lt
  have XV6_7 := Lib.hid xv6_7
  clear xv6_7
  go_wp2_with fail
  have eS : ∀ w', Below w7.drew.heap.size w7.drew w' → w'.cell? ⟨w.heap.size, 0, none⟩ = some (.int .i64 l0) ∧ w'.cell? ⟨w.heap.size, 1, none⟩ = some (.slice A0 n0 c0) ∧ w'.cell? ⟨w5.heap.size, 0, none⟩ = some (.int .i64 l0) ∧ w'.cell? ⟨w5.heap.size, 1, none⟩ = some (.slice B5 n0 d5) := fun w' hb => ⟨(hb.cell (p := ⟨w.heap.size, 0, none⟩) XP0_7.out.lt).trans cp0_0, (hb.cell (p := ⟨w.heap.size, 1, none⟩) XP0_7.out.lt).trans cp0_1, (hb.cell (p := ⟨w5.heap.size, 0, none⟩) XV6_7.out.lt).trans cv6_0, (hb.cell (p := ⟨w5.heap.size, 1, none⟩) XV6_7.out.lt).trans cv6_1⟩
  have zS := eS _ (Below.refl _ _)
  have ES := Lib.hid eS
  clear eS
  have ZS := Lib.hid zS
  clear zS
  go_region_held3 (fun w' => w'.cell? ⟨w.heap.size, 0, none⟩ = some (.int .i64 l0) ∧ w'.cell? ⟨w.heap.size, 1, none⟩ = some (.slice A0 n0 c0) ∧ w'.cell? ⟨w5.heap.size, 0, none⟩ = some (.int .i64 l0) ∧ w'.cell? ⟨w5.heap.size, 1, none⟩ = some (.slice B5 n0 d5)) (first | exact ZS.out | assumption) ((first | ((with_reducible refine (toTag_any l0 A0 n0 c0 t _ (Rd.drew (hr0.keep t7)) Hn0.out hb0 hy0).mono ?_); rintro e y7 ⟨B8, d8, rfl, oy7, hU1⟩; have hS1 := ES.out _ hU1; have oz7 := own_keep (w := w7.drew) ox5_7 hU1 (Nat.le_refl _)) | ((with_reducible refine (eqTag_k l0 B5 n0 d5 t l0 B8 n0 d8 t _ (Rd.of_own oz7) Hn0.out (le_big hb0) (Rd.of_own oy7) Hn0.out (le_big hb0)).mono ?_); rintro e w8 ⟨rfl, hU2⟩; have hU3 := hU1.trans (hU2.mono hU1.size); have hS2 := ES.out _ hU3)))
  have b8 : Below w7.heap.size w7 w8 := ((Below.refl _ _).drew).trans hU3
  have t8 := t7.trans (b8.mono t7.size)
  clear hU1 hU2 hU3 hS1 hS2 ES ZS oy7 oz7
  clear lp0 cp0_0 cp0_1
  clear lv6 cv6_0 cv6_1
  have ox5_8 := own_keep ox5_7 b8 (Nat.le_refl _)
  clear ox5_7
  have xp0_8 := XP0_7.out.below b8 XP0_7.out.lt
  clear XP0_7
  have xv6_8 := XV6_7.out.below b8 XV6_7.out.lt
  clear XV6_7
  have cp0_0 : w8.cell? ⟨w.heap.size, 0, none⟩ = some (.int .i64 l0) := by rw [xp0_8.cell]; rfl
  have cp0_1 : w8.cell? ⟨w.heap.size, 1, none⟩ = some (.slice A0 n0 c0) := by rw [xp0_8.cell]; rfl
  have lp0 := xp0_8.lt
  have XP0_8 := Lib.hid xp0_8
  clear xp0_8
  have cv6_0 : w8.cell? ⟨w5.heap.size, 0, none⟩ = some (.int .i64 l0) := by rw [xv6_8.cell]; rfl
  have cv6_1 : w8.cell? ⟨w5.heap.size, 1, none⟩ = some (.slice B5 n0 d5) := by rw [xv6_8.cell]; rfl
  have lv6 := xv6_8.lt
  have XV6_8 := Lib.hid xv6_8
  clear xv6_8
  go_wp2_with fail
  go_ret
  exact ⟨rfl, t8⟩
  
set_option maxRecDepth 100000 in
theorem door_met_FormatTag (os : Os) (args : Array Value) : laidMetH Tryd.prog Rows.fnExactFormatTagRow.laid ((World.doorLaid Tryd.prog 4000 os).forCall (fun _ _ => 0) ⟨#[], args, []⟩).memory :=
  laidMet_of_run' 8 (by kernel_rfl) (by kernel_rfl)

set_option maxRecDepth 100000 in
theorem lifted_FormatTag (os : Os) (started : os.Started) (H : Type) (enc : TypeId × Value → H) :
    ReturnsInHanded {} Tryd.checked os 4 .any (fun w args => (Rows.fnExactFormatTagSpec.pre enc Tryd.prog Tryd.f4 Rows.fnExactFormatTagRow.domain false w args ∧ laidMetH Tryd.prog Rows.fnExactFormatTagRow.laid w) ∧ sizedMet enc Tryd.prog Tryd.f4 (OpenSpec.ofChange Rows.fnExactFormatTagSpec) false w args) (Rows.fnExactFormatTagSpec.post enc Tryd.prog Tryd.f4 false true false false) := by
  refine returnsInHanded_of_change_and (C := Tryd.checked) (X := fun w _ => laidMetH Tryd.prog Rows.fnExactFormatTagRow.laid w) (fun _ _ _ hh h => h.of_heap hh) own_knob started (by kernel_rfl) Tryd.func4
    (ChangeSpec.witness_shaped (enc := enc) (C := Tryd.checked) (os := os) (X := fun w _ => laidMetH Tryd.prog Rows.fnExactFormatTagRow.laid w) false (World.doorLaid Tryd.prog 4000 os) #[.agg #[.int .i64 0, .slice none 0 0]] 8 rfl (World.shaped_of_RefB (by kernel_rfl) (by kernel_rfl)) (by kernel_rfl) (by kernel_rfl) (by kernel_rfl) (door_met_FormatTag os _)) ?_
  intro W base args ds gs before hval0 hW _ _ hL _
  have hval : ∀ (j : Nat) t v, Tryd.f4.params[j]? = some t → args[j]? = some v → Value.okWide Tryd.prog W .any base t v := hval0
  have hW' := hW
  obtain ⟨p, q, hA0, hV, rfl, hfz, hnd⟩ := hW
  have hA : DataW.TrodAll enc Tryd.prog W 0 (fun _ => true) true Tryd.f4.params.toList args.toList ds p := hA0
  rw [Tryd.params4] at hA hval
  obtain ⟨v0, vs0, d0, ds0, p0, q0, hargs, rfl, rfl, h0, r0⟩ := trodAll_cons hA
  obtain ⟨rfl, rfl, rfl⟩ := trodAll_nil r0
  obtain rfl : args = #[v0] := by cases args; simp_all
  obtain ⟨rfl, rfl⟩ := trodVars_none hV
  have k0 := h0
  have lt0 : ∀ x ∈ p0, x.block < W.heap.size := by obtain ⟨m, hm⟩ := k0; exact DataW.trod_lt m _ _ _ hm
  obtain ⟨z0, R0⟩ := open_tag (hval 0 39 v0 rfl rfl) h0
  clear hA0 hval0
  refine (law_FormatTag W v0 z0 R0).mono fun e W' ⟨he, bel⟩ => ?_
  subst he
  exact ⟨_, rfl, _, _, _, [], _, [], hW', trodAll_mk1 (shut_bool Tryd.underlying4 _), (trodAll_cons_mk (Below.trod laid_out (by kernel_rfl) (of_decide_eq_true (by kernel_rfl)) k0 bel lt0) trodAll_mk0), rfl, bel.frame _, fun h => by cases h⟩

theorem FormatTag_row : Rows.FnExactFormatTagSaid :=
  OpenClaim.holds_of_wide 4 Tryd.f4 rfl rfl rfl rfl rfl rfl rfl ⟨rfl, rfl, rfl, rfl, rfl⟩ rfl rfl rfl rfl rfl (by kernel_rfl) Tryd.func4 (by kernel_rfl)
    (of_decide_eq_true (by kernel_rfl)) (by unfold Func.isWrapper; first | (rw [if_pos (by decide +kernel)]; kernel_rfl) | (rw [if_neg (by decide +kernel)]; exact ⟨rfl, rfl⟩))
    (fun os started H enc _ => lifted_FormatTag os started H enc)

/-- The tied card, out of the row and the given tie. -/
theorem FormatTag_holds : Rows.FnExactFormatTagCardSaid :=
  Claim7.holds_tied_plain_at .later [] [.data, .data, .data] true Rows.fnExactFormatTagCard.stood.harness true
    FormatTag_row (fun _ h => by cases h) (by kernel_rfl) (fun _ h => by cases h) fnExactFormatTag_row_tie rfl ⟨rfl, rfl⟩ (by kernel_rfl) rfl
    (fun f fn hf hfn => by
      obtain rfl : f = 4 := Option.some.inj ((show Tryd.prog.funcNamed Rows.fnExactFormatTagRow.func = some 4 by kernel_rfl).symm.trans hf) |>.symm
      obtain rfl : fn = Tryd.f4 := (Option.some.inj (Tryd.func4.symm.trans hfn)).symm
      exact ⟨by kernel_rfl, fun j t ht => by
        rw [Tryd.params4] at ht
        have hm : t ∈ [39] := by simpa using Array.mem_of_getElem? ht
        have hall : ([39].all fun u => !Tryd.prog.wantsStandIn u) = true := by kernel_rfl
        exact (show Tryd.prog.wantsStandIn t = false by simpa using List.all_eq_true.1 hall t hm)⟩)
    (by kernel_rfl)


end Go.Proofs.YtgceabbeeobmgaaDoor
