/- Walks over FarthestWord of the reference and of the program. -/
import Derived.Test.YtidmbeeadbedaaaFwP
import Derived.Test.YtidmbeeadbedaaaShort
import Derived.Test.YtidmbeeadbedaaaMg9
import Derived.Test.YtidmbeeadbedaaaTurn
import Derived.Deep.RegionLaw
namespace Go.Proofs.Ytidmbeeadbedaaa
open Go.RowKit Go.Shelf


set_option maxRecDepth 100000 in
set_option maxHeartbeats 4000000 in
theorem implFarthestWord_any (l : Int) (A : Option Addr) (n c : Nat) (rs : List RuleT) (u : ByteArray) (lim : Int) (w : World) (hr : Rd w A (cellsRule rs)) (hn : n = rs.length) (hb : n ≤ 1048576) (hz : ∀ x ∈ rs, x.1.size ≤ 1048576 ∧ x.2.size ≤ 1048576) (hs : u.size ≤ 1048576) :
    Calls Try.prog 26 #[.agg #[.int .i64 l, .slice A n c], .string u, .int .i64 lim] w (Kept w (.tuple #[.string (fwS l rs u lim), .int .i64 (fwF l rs u lim)])) := by
  have hW0 : Below w.heap.size w (w.alloc (.cells #[.int .i64 l, .slice A n c] 25)) := (Below.refl _ _).alloc (Nat.le_refl _) _
  have hS0 := Bk.new w 25 #[.int .i64 l, .slice A n c]
  have Hr := Lib.hid hr
  clear hr
  have Hn := Lib.hid hn
  clear hn
  have Hz := Lib.hid hz
  clear hz
  go_enter Try.func26, Try.ntmps26
  go_wp2_with fail
  with_reducible refine (implSearched_any l A n c rs u lim _ (Hr.out.keep hW0) Hn.out hb Hz.out hs).mono ?_
  rintro e w1 ⟨rfl, b1⟩
  have hW1 := hW0.trans (b1.mono hW0.size)
  have hS1 := hS0.below b1 hS0.lt
  have s0_1 : w1.cell? ⟨w.heap.size, 0, none⟩ = some (.int .i64 l) := by rw [hS1.cell]; rfl
  have s1_1 : w1.cell? ⟨w.heap.size, 1, none⟩ = some (.slice A n c) := by rw [hS1.cell]; rfl
  have sl_1 := hS1.lt
  clear b1
  obtain ⟨r1, hrr⟩ : ∃ r', r' = (searched l rs u lim) := ⟨_, rfl⟩
  rw [← hrr]
  have H1 := Lib.hid hrr
  clear hrr
  cases r1
  · have e1 : fwS l rs u lim = ⟨#[]⟩ := by rw [fwS, ← H1.out]; rfl
    have e2 : fwF l rs u lim = -1 := by rw [fwF, ← H1.out]; rfl
    have E1 := Lib.hid e1
    clear e1
    have E2 := Lib.hid e2
    clear e2
    go_wp2_with fail
    go_ret2
    rw [E1.out, E2.out]
    exact ⟨rfl, hW1⟩
  obtain ⟨hso, hwu⟩ : searchOk l rs lim = true ∧ word15 l u lim = true := by
    have h := H1.out.symm
    unfold searched at h
    simpa using h
  obtain ⟨hro, hg8, hl8⟩ := searched_out hso hwu
  obtain ⟨S, hS⟩ : ∃ S, S = srAll rs u lim := ⟨_, rfl⟩
  have hgd := srAll_good hro hl8 hg8
  have hpos := srAll_pos rs u lim
  have hlen := srGood_len hgd
  have hsr := implSearch_any l A n c rs u lim w1 (Hr.out.keep hW1) Hn.out hb Hz.out hro hg8 hl8
  have e1 : fwS l rs u lim = (srAt (srAll rs u lim) (fwTo (srAll rs u lim) (srAll rs u lim).length)).1 := by rw [fwS, if_pos H1.out.symm, fwAt]
  have e2 : fwF l rs u lim = (srAt (srAll rs u lim) (fwTo (srAll rs u lim) (srAll rs u lim).length)).2.2.2 := by rw [fwF, if_pos H1.out.symm, fwAt]
  rw [← hS] at hgd hpos hlen hsr e1 e2
  have Hgd := Lib.hid hgd
  clear hgd
  have HS := Lib.hid hS
  clear hS
  have Hro := Lib.hid hro
  clear hro
  have Hg8 := Lib.hid hg8
  clear hg8
  have Hsr := Lib.hid hsr
  clear hsr
  have Hso := Lib.hid hso
  clear hso
  have Hwu := Lib.hid hwu
  clear hwu
  have E1 := Lib.hid e1
  clear e1
  have E2 := Lib.hid e2
  clear e2
  go_wp2_with fail
  refine Hsr.out.mono ?_
  rintro e w3 ⟨gm, g1, c1, nM, D, rfl, hmp, hM, o1, b3, hgm⟩
  have hW3 := hW1.trans (b3.mono hW1.size)
  obtain ⟨p, hp⟩ : ∃ p, p = S.length := ⟨_, rfl⟩
  rw [← hp] at o1 hlen hpos ⊢
  have h00 : 0 < S.length := by rw [← hp]; exact hpos
  have k00 := o1.cell (srAt_cell h00).1
  obtain ⟨x00, hx00⟩ : ∃ x, x = (srAt S 0).1 := ⟨_, rfl⟩
  rw [← hx00] at k00
  have hgml := hmp.lt
  clear b3 s0_1 s1_1 sl_1 hS1 hW1
  have hB0 := Below.refl w3.heap.size w3
  have Hp := Lib.hid hp
  clear hp
  have O1 := Lib.hid o1
  clear o1
  have HB0 := Lib.hid hB0
  clear hB0
  have Hmp := Lib.hid hmp
  clear hmp
  have HM := Lib.hid hM
  clear hM
  have Hx00 := Lib.hid hx00
  clear hx00
  go_wp2_with fail
  go_loopw [10, 30] (fun b iv wr => ∃ (q B : Nat) (x : ByteArray), b = .string x ∧ iv = .int .i64 (q : Int) ∧ q ≤ p ∧ Hid (B = fwTo S q) ∧ Hid (x = (srAt S B).1) ∧ Below w3.heap.size w3 wr) (fun _ iv _ => p - (intOf iv).toNat)
  case atStart => exact ⟨0, 0, x00, rfl, rfl, Nat.zero_le _, Lib.hid rfl, Hx00, HB0.out⟩
  case round =>
    clear HB0 k00
    obtain ⟨q, B, x, rfl, rfl, hq, HB, HX, hB⟩ := hrel
    have hBp : B < p := by rw [HB.out, Hp.out]; exact fwTo_lt (by rw [← Hp.out]; exact hpos) q (by rw [← Hp.out]; exact hq)
    have hBS : B < S.length := by rw [← Hp.out]; exact hBp
    have hwB := (Hgd.out.2.1 _ (srAt_word hBS)).2.2
    rw [← HX.out] at hwB
    have hfB := sr_find Hgd.out hBS
    rw [← HX.out] at hfB
    have hmr := map_keep Hmp.out hB hgml
    obtain ⟨v1, ps1, hlk, hv1⟩ := hmr.lookup (Maps.string_keyed Try.underlying9) Try.underlying111 (zero_arr _) (arrR_mk (⟨#[]⟩, (0, 0, false), 0)) (key_str (x := x) (by omega))
    rw [(HM.out.2 x).2 B _ hfB] at hv1
    have hvv := arrR_inv hv1
    obtain ⟨⟨f0, ⟨f1, f2, f3⟩, f⟩, hf⟩ : ∃ z, z = arrOf S B := ⟨_, rfl⟩
    rw [← hf] at hvv
    subst hvv
    have hff : f = (srAt S B).2.2.2 := congrArg (fun z => z.2.2) hf
    have hfd : ∀ W : World, (Instr.field 116 (.agg #[.string f0, .int .i64 f1, .int .i64 f2, .bool f3, .int .i64 f]) 2).run Try.prog W = .ok (.int .i64 f) W := fun W => by rfl
    clear hv1
    by_cases hlt : q < p
    · have hlk' : (Instr.lookup 111 (.map (some gm)) (.string x) false).run Try.prog wr = .ok (.agg #[.string f0, .int .i64 f1, .int .i64 f2, .bool f3, .int .i64 f]) wr := hlk
      have hqS : q < S.length := by rw [← Hp.out]; exact hlt
      have hqi : (q : Int) < (p : Int) := by omega
      have m1 := (O1.out.below hB).cell (srAt_cell hqS).1
      have hwq := (Hgd.out.2.1 _ (srAt_word hqS)).2.2
      have hfq := sr_find Hgd.out hqS
      obtain ⟨y, hy⟩ : ∃ y, y = (srAt S q).1 := ⟨_, rfl⟩
      rw [← hy] at m1 hwq hfq
      obtain ⟨v2, ps2, hlk2, hv2⟩ := hmr.lookup (Maps.string_keyed Try.underlying9) Try.underlying111 (zero_arr _) (arrR_mk (⟨#[]⟩, (0, 0, false), 0)) (key_str (x := y) (by omega))
      rw [(HM.out.2 y).2 q _ hfq] at hv2
      have hvv := arrR_inv hv2
      obtain ⟨⟨f0', ⟨f1', f2', f3'⟩, f'⟩, hf'⟩ : ∃ z, z = arrOf S q := ⟨_, rfl⟩
      rw [← hf'] at hvv
      subst hvv
      have hff' : f' = (srAt S q).2.2.2 := congrArg (fun z => z.2.2) hf'
      have hfd' : ∀ W : World, (Instr.field 116 (.agg #[.string f0', .int .i64 f1', .int .i64 f2', .bool f3', .int .i64 f']) 2).run Try.prog W = .ok (.int .i64 f') W := fun W => by rfl
      have hlk2' : (Instr.lookup 111 (.map (some gm)) (.string y) false).run Try.prog wr = .ok (.agg #[.string f0', .int .i64 f1', .int .i64 f2', .bool f3', .int .i64 f']) wr := hlk2
      clear hlk hlk2 hv2
      have hcond : ∃ r : Bool, r = decide (orI (cmpI f f') (cmpW y x) < 0) ∧ fwTo S (q + 1) = if r = true then q else B := by
        refine ⟨_, rfl, ?_⟩
        rcases Int.lt_trichotomy f f' with h | h | h
        · rw [if_pos]
          · exact fwTo_gt HB.out (by rw [← hff, ← hff']; exact h)
          · rw [show cmpI f f' = -1 by unfold cmpI; rw [if_pos h]]; unfold orI; rw [if_neg (by omega)]; decide
        · have e : orI (cmpI f f') (cmpW y x) = cmpW y x := by unfold orI; rw [if_pos]; unfold cmpI; rw [if_neg (by omega), if_neg (by omega)]
          rw [e, less_cmp]
          cases hl : lessW y x
          · rw [if_neg (by simp)]; exact fwTo_not HB.out (by rw [← hff, ← hff', h]) (by rw [← hy, ← HX.out]; exact hl)
          · rw [if_pos rfl]; exact fwTo_less HB.out (by rw [← hff, ← hff', h]) (by rw [← hy, ← HX.out]; exact hl)
        · rw [if_neg]
          · exact fwTo_lt2 HB.out (by rw [← hff, ← hff']; exact h)
          · rw [show cmpI f f' = 1 by unfold cmpI; rw [if_neg (by omega), if_pos h]]; unfold orI; rw [if_neg (by omega)]; decide
      obtain ⟨r, hr1, hr2⟩ := hcond
      obtain ⟨a1, ha1⟩ : ∃ a, a = cmpI f f' := ⟨_, rfl⟩
      obtain ⟨a2, ha2⟩ : ∃ a, a = cmpW y x := ⟨_, rfl⟩
      obtain ⟨a3, ha3⟩ : ∃ a, a = orI a1 a2 := ⟨_, rfl⟩
      rw [← ha1, ← ha2, ← ha3] at hr1
      have hC : ∀ W, Calls Try.prog 85 #[.int .i64 f, .int .i64 f'] W fun e w' => e = .returned (.int .i64 a1) ∧ W = w' := fun W => by rw [ha1]; exact compare_int f f' W
      have hD : ∀ W, Calls Try.prog 71 #[.string y, .string x] W (Kept W (.int .i64 a2)) := fun W => by rw [ha2]; exact compareWords_any y x W (by omega) (by omega)
      have Hf := Lib.hid hf
      clear hf
      have Hf' := Lib.hid hf'
      clear hf'
      have Hff := Lib.hid hff
      clear hff
      have Hff' := Lib.hid hff'
      clear hff'
      have Hr2 := Lib.hid hr2
      clear hr2
      have Ha1 := Lib.hid ha1
      clear ha1
      have Ha2 := Lib.hid ha2
      clear ha2
      have Hy := Lib.hid hy
      clear hy
      have HC := Lib.hid hC
      clear hC
      have HD := Lib.hid hD
      clear hD
      have Hmr := Lib.hid hmr
      clear hmr
      have HfB := Lib.hid hfB
      clear hfB
      have Hfq := Lib.hid hfq
      clear hfq
      have Hr1 := Lib.hid hr1
      clear hr1
      go_wp2_with fail
      refine (HC.out _).mono ?_
      rintro e w5 ⟨rfl, rfl⟩
      clear hlk' hlk2'
      go_wp2_with fail
      refine (HD.out _).mono ?_
      rintro e w6 ⟨rfl, b6⟩
      have hB6 := hB.trans (b6.mono hB.size)
      clear b6
      go_wp2_with fail
      refine (or_two _ _ a1 a2 _ ?_).mono ?_
      · intro _
        refine ⟨w6.heap.size, 0, rfl, by simp, fun k v hk => ?_⟩
        rw [Nat.zero_add, (Bk.new w6 3 #[Value.int .i64 a1, Value.int .i64 a2]).cell k]
        simpa [ints] using hk
      rintro e w7 ⟨rfl, rfl⟩
      have hB7 := hB6.alloc hB6.size (.cells #[Value.int .i64 a1, Value.int .i64 a2] 3)
      rw [← ha3]
      clear ha3
      have HB7 := Lib.hid hB7
      clear hB7
      by_cases h3 : a3 < 0
      · have hrt : r = true := by rw [Hr1.out]; exact decide_eq_true h3
        subst hrt
        go_wp2_with fail
        go_roundw
        case rel => exact ⟨q + 1, q, y, rfl, by go_num, by omega, Lib.hid (by rw [Hr2.out]; rfl), Hy, HB7.out⟩
        case measure => simp [intOf] <;> omega
      · have hrt : r = false := by rw [Hr1.out]; exact decide_eq_false h3
        subst hrt
        go_wp2_with fail
        go_roundw
        case rel => exact ⟨q + 1, B, x, rfl, by go_num, by omega, Lib.hid (by rw [Hr2.out]; rfl), HX, HB7.out⟩
        case measure => simp [intOf] <;> omega
    · have : q = p := by omega
      subst this
      have hlk' : (Instr.lookup 111 (.map (some gm)) (.string x) false).run Try.prog wr.drew = .ok (.agg #[.string f0, .int .i64 f1, .int .i64 f2, .bool f3, .int .i64 f]) wr.drew := by
        obtain ⟨v2, ps2, hlk2, hv2⟩ := (show wr.drew.ownsMap Try.prog 9 arrR gm nM D from hmr).lookup (Maps.string_keyed Try.underlying9) Try.underlying111 (zero_arr _) (arrR_mk (⟨#[]⟩, (0, 0, false), 0)) (key_str (x := x) (by omega))
        rw [(HM.out.2 x).2 B _ hfB, ← hf] at hv2
        rw [arrR_inv hv2] at hlk2
        exact hlk2
      clear hlk
      have hW9 := hW3.trans (hB.mono hW3.size)
      have e5 : fwS l rs u lim = x := by rw [E1.out, ← Hp.out, ← HB.out, ← HX.out]
      have e6 : fwF l rs u lim = f := by rw [E2.out, ← Hp.out, ← HB.out, ← hff]
      have Hf := Lib.hid hf
      clear hf
      have Hff := Lib.hid hff
      clear hff
      have E5 := Lib.hid e5
      clear e5
      have E6 := Lib.hid e6
      clear e6
      have HW9 := Lib.hid hW9
      clear hW9
      have HB := Lib.hid hB
      clear hB
      have Hmr := Lib.hid hmr
      clear hmr
      have HfB := Lib.hid hfB
      clear hfB
      go_wp2_with fail
      go_region
      all_goals
        go_wp2_with fail
        go_ret2
        rw [E5.out, E6.out]
        exact ⟨rfl, HW9.out.drew⟩

end Go.Proofs.Ytidmbeeadbedaaa
