/- Walk over StepsOf of the reference: it returns the steps of a word. -/
import Derived.Test.YteafeecndghapaaGreatMg8
import Derived.Deep.RegionHeld3
namespace Go.Proofs.YteafeecndghapaaGreat
open Go.RowKit Go.Shelf

theorem one_cell_step (a b : Int) : ∀ u ∈ (#[Value.int .i64 a, Value.int .i64 b] : Array Value).toList, u.oneCell' = true := by
  intro u hu
  simp at hu
  rcases hu with rfl | rfl <;> rfl

set_option maxRecDepth 100000 in
set_option maxHeartbeats 4000000 in
theorem specSteps_any (l : Int) (A : Option Addr) (n c : Nat) (rs : List RuleT) (s : ByteArray) (w : World) (hr : Rd w A (cellsRule rs)) (hn : n = rs.length) (hb : n ≤ 1048576) (hz : ∀ x ∈ rs, x.1.size ≤ 1048576 ∧ x.2.size ≤ 1048576) (hs : s.size ≤ 1048576) :
    Calls Tryz.prog 112 #[.agg #[.int .i64 l, .slice A n c], .string s] w (MadeSl w 56 2 (stepsOf l rs s).length (cellsStep (stepsOf l rs s))) := by
  have hW0 : Below w.heap.size w (w.alloc (.cells #[.int .i64 l, .slice A n c] 25)) := (Below.refl _ _).alloc (Nat.le_refl _) _
  have hS0 := Bk.new w 25 #[.int .i64 l, .slice A n c]
  have Hr := Lib.hid hr
  clear hr
  have Hn := Lib.hid hn
  clear hn
  have Hz := Lib.hid hz
  clear hz
  go_enter Tryz.func112, Tryz.ntmps112
  go_wp2_with fail
  with_reducible refine (specRulesOk_any l A n c rs _ (Hr.out.keep hW0) Hn.out hb Hz.out).mono ?_
  rintro e w1 ⟨rfl, b1⟩
  have hW1 := hW0.trans (b1.mono hW0.size)
  have hS1 := hS0.below b1 hS0.lt
  have s0_1 : w1.cell? ⟨w.heap.size, 0, none⟩ = some (.int .i64 l) := by rw [hS1.cell]; rfl
  have s1_1 : w1.cell? ⟨w.heap.size, 1, none⟩ = some (.slice A n c) := by rw [hS1.cell]; rfl
  have sl_1 := hS1.lt
  clear b1
  obtain ⟨r1, hrr⟩ : ∃ r', r' = (rulesOk l rs) := ⟨_, rfl⟩
  rw [← hrr]
  have H1 := Lib.hid hrr
  clear hrr
  cases r1
  · go_wp2_with fail
    go_ret
    have e : stepsOf l rs s = [] := by rw [stepsOf, ← H1.out]; rfl
    rw [e]
    exact ⟨_, _, rfl, World.ownsRow_nil _ _ _ _, hW1⟩
  have h12 := rulesOk_12 H1.out.symm
  rw [← Hn.out] at h12
  have hE : stepsOf l rs s = stepAcc rs s s.size := by rw [stepsOf, ← H1.out]; rfl
  have hside : ∀ x ∈ rs, x.1.size ≤ 8 := fun x hx => (rulesOk_side H1.out.symm hx).1
  have HE := Lib.hid hE
  clear hE
  have Hside := Lib.hid hside
  clear hside
  clear hS0 hW0
  go_wp2_with fail
  go_loopw [5, 6] (fun v i wr => ∃ (q : Nat) (B : Option Addr) (d m : Nat), q ≤ s.size ∧ i = .int .i64 q ∧ v = .slice B m d ∧ Hid (m = (stepAcc rs s q).length) ∧ Bk wr w.heap.size 25 #[.int .i64 l, .slice A n c] ∧ wr.ownsRow (w.heap.size + 1) 56 2 (.slice B m d) m (cellsStep (stepAcc rs s q)) ∧ Below w.heap.size w wr) (fun _ i _ => s.size - (intOf i).toNat)
  case atStart => exact ⟨0, _, _, 0, Nat.zero_le _, rfl, rfl, rfl, hS1.alloc _, World.ownsRow_made _ _ 0 (by omega) (by unfold maxLen; omega) rfl, hW1.alloc hW1.size _⟩
  case round =>
    clear hS1 hW1 s0_1 s1_1 sl_1
    obtain ⟨i, B, d, m, hi, rfl, rfl, HM, hS0, hown, hW0⟩ := hrel
    by_cases hlt : i < s.size
    · skip
      have s0_0 : wr.cell? ⟨w.heap.size, 0, none⟩ = some (.int .i64 l) := by rw [hS0.cell]; rfl
      have s1_0 : wr.cell? ⟨w.heap.size, 1, none⟩ = some (.slice A n c) := by rw [hS0.cell]; rfl
      have sl_0 := hS0.lt
      have Hown := Lib.hid hown
      clear hown
      go_wp2_with fail
      go_loopw [5, 22] (fun v k wr => ∃ (q : Nat) (B : Option Addr) (d m : Nat), q ≤ n ∧ k = .int .i64 q ∧ v = .slice B m d ∧ Hid (m = (stepTo rs s i q).length) ∧ Bk wr w.heap.size 25 #[.int .i64 l, .slice A n c] ∧ wr.ownsRow (w.heap.size + 1) 56 2 (.slice B m d) m (cellsStep (stepTo rs s i q)) ∧ Below w.heap.size w wr) (fun _ k _ => n - (intOf k).toNat)
      case atStart => exact ⟨0, B, d, m, Nat.zero_le _, rfl, rfl, by unfold Hid; rw [stepTo_zero]; exact HM.out, hS0, by rw [stepTo_zero]; exact Hown.out, hW0⟩
      case round =>
        clear hS0 hW0 s0_0 s1_0 sl_0 HM Hown
        obtain ⟨k, B, d, m, hk, rfl, rfl, HM, hS0, hown, hW0⟩ := hrel
        by_cases hltk : k < n
        · have hk2 : k < rs.length := by rw [← Hn.out]; exact hltk
          have hml : m ≤ i * 12 + 12 := by rw [HM.out]; exact stepTo_len rs s i k (by rw [← Hn.out]; exact h12) (by omega)
          obtain ⟨b, o, rfl, hbl, p0, p1⟩ := rd_Rule (Hr.out.keep hW0) hk2
          obtain ⟨⟨v0, v1⟩, hv⟩ : ∃ v, v = rs[k] := ⟨_, rfl⟩
          have z0 : v0.size ≤ 8 := by have := Hside.out rs[k] (List.getElem_mem hk2); rw [← hv] at this; exact this
          rw [← hv] at p0 p1
          dsimp only at p0 p1
          have hA_ : ruleAt rs k = (v0, v1) := by rw [ruleAt_get hk2, hv]
          have hW1 := hW0.alloc hW0.size (.cells #[.string v0, .string v1] 68)
          have hS1 := hS0.alloc (.cells #[.string v0, .string v1] 68)
          have hX := (Bk.new wr 68 #[.string v0, .string v1]).drew
          have zC : (fun W => W.cell? ⟨wr.heap.size, 0, none⟩ = some (.string v0)) (wr.alloc (.cells #[.string v0, .string v1] 68)).drew := by show World.cell? _ _ = _; rw [hX.cell]; rfl
          have hown1 := own_keep hown ((Below.refl _ wr).alloc (Nat.le_refl _) (.cells #[.string v0, .string v1] 68)) (Nat.le_refl _)
          have ZC := Lib.hid zC
          clear zC
          have HA_ := Lib.hid hA_
          clear hA_
          have Hv := Lib.hid hv
          clear hv
          clear hX hown
          have hsub : IntKind.i64.wrap ((s.size : Int) - (i : Int)) = (s.size : Int) - (i : Int) := IntWalk.i64_in _ ⟨by omega, by omega⟩
          by_cases h4 : v0.size + i ≤ s.size
          · have h4i : (v0.size : Int) ≤ (s.size : Int) - (i : Int) := by omega
            have hsum : IntKind.i64.wrap ((i : Int) + (v0.size : Int)) = (i : Int) + (v0.size : Int) := IntWalk.i64_in _ ⟨by omega, by omega⟩
            have g3 : (i : Int) + (v0.size : Int) ≤ (s.size : Int) := by omega
            have g4 : (0 : Int) ≤ (i : Int) + (v0.size : Int) := by omega
            have g5 : ((i : Int) + (v0.size : Int)).toNat = i + v0.size := by omega
            have g6 : i + v0.size ≤ s.size := by omega
            have g7 : (i : Int) ≤ (i : Int) + (v0.size : Int) := by omega
            cases h5 : (s.extract i (i + v0.size)).toList == v0.toList
            · have hit : hitAt rs s i k = false := by rw [hitAt, HA_.out, hasAt, h5, Bool.and_false]
              have Hit := Lib.hid hit
              clear hit
              go_wp2_with fail
              go_region_held3 (fun W => W.cell? ⟨wr.heap.size, 0, none⟩ = some (.string v0)) (first | exact ZC.out | assumption) (fail)
              generalize hwd : (wr.alloc (.cells #[.string v0, .string v1] 68)).drew = w3
              have hW3 : Below w.heap.size w w3 := by rw [← hwd]; exact hW1.drew
              have hS3 : Bk w3 w.heap.size 25 #[.int .i64 l, .slice (some ⟨b, o, none⟩) n c] := by rw [← hwd]; exact hS1.drew
              have hown3 : w3.ownsRow (w.heap.size + 1) 56 2 (.slice B m d) m (cellsStep (stepTo rs s i k)) := by rw [← hwd]; exact hown1
              have sl3 := hS3.lt
              clear hwd hS1 hW1 hown1
              go_wp2_with fail
              go_roundw
              case rel => exact ⟨k + 1, B, d, m, by omega, by go_num, rfl, by unfold Hid; rw [stepTo_no Hit.out]; exact HM.out, hS3, by rw [stepTo_no Hit.out]; exact hown3, hW3⟩
              case measure => simp [intOf]; omega
            · have hit : hitAt rs s i k = true := by rw [hitAt, HA_.out, hasAt, h5, decide_eq_true h4]; rfl
              have Hit := Lib.hid hit
              clear hit
              go_wp2_with fail
              go_region_held3 (fun W => W.cell? ⟨wr.heap.size, 0, none⟩ = some (.string v0)) (first | exact ZC.out | assumption) (fail)
              generalize hwd : (wr.alloc (.cells #[.string v0, .string v1] 68)).drew = w3
              have hW3 : Below w.heap.size w w3 := by rw [← hwd]; exact hW1.drew
              have hS3 : Bk w3 w.heap.size 25 #[.int .i64 l, .slice (some ⟨b, o, none⟩) n c] := by rw [← hwd]; exact hS1.drew
              have hown3 : w3.ownsRow (w.heap.size + 1) 56 2 (.slice B m d) m (cellsStep (stepTo rs s i k)) := by rw [← hwd]; exact hown1
              have sl3 := hS3.lt
              clear hwd hS1 hW1 hown1
              go_wp2_with (at_builtin; refine wpList_app1 _ w3 rfl _ _ 121 rfl (w.heap.size + 1) 56 2 16 _ Tryz.underlying121 info_Step rfl (by omega) _ _ _ _ rfl rfl rfl hown3 rfl (one_cell_step _ _) (by omega) (by unfold maxLen; omega) (by omega) ?_; intro A5 c5 w5 hO5 hW5)
              have hW6 := hW3.trans (hW5.mono (by omega))
              have hS6 := hS3.below hW5 (by omega)
              have hO6 : w5.ownsRow (w.heap.size + 1) 56 2 (.slice A5 (m + 1) c5) (m + 1) (cellsStep (stepTo rs s i (k + 1))) := by rw [stepTo_yes Hit.out, cellsStep_snoc]; exact hO5
              clear hO5 hown3
              go_wp2_with fail
              go_roundw
              case rel => exact ⟨k + 1, A5, c5, m + 1, by omega, by go_num, rfl, by unfold Hid; rw [stepTo_yes Hit.out, List.length_append, HM.out]; rfl, hS6, hO6, hW6⟩
              case measure => simp [intOf]; omega
          · have h4i : ¬ ((v0.size : Int) ≤ (s.size : Int) - (i : Int)) := by omega
            have hit : hitAt rs s i k = false := by rw [hitAt, HA_.out, hasAt, decide_eq_false h4]; rfl
            have h4d : decide ((v0.size : Int) ≤ (s.size : Int) - (i : Int)) = false := decide_eq_false h4i
            have Hit := Lib.hid hit
            clear hit
            go_wp2_with fail
            go_region
            generalize hwd : (wr.alloc (.cells #[.string v0, .string v1] 68)).drew = w3
            have hW3 : Below w.heap.size w w3 := by rw [← hwd]; exact hW1.drew
            have hS3 : Bk w3 w.heap.size 25 #[.int .i64 l, .slice (some ⟨b, o, none⟩) n c] := by rw [← hwd]; exact hS1.drew
            have hown3 : w3.ownsRow (w.heap.size + 1) 56 2 (.slice B m d) m (cellsStep (stepTo rs s i k)) := by rw [← hwd]; exact hown1
            have sl3 := hS3.lt
            clear hwd hS1 hW1 hown1
            go_wp2_with fail
            go_roundw
            case rel => exact ⟨k + 1, B, d, m, by omega, by go_num, rfl, by unfold Hid; rw [stepTo_no Hit.out]; exact HM.out, hS3, by rw [stepTo_no Hit.out]; exact hown3, hW3⟩
            case measure => simp [intOf]; omega
        · have : k = n := by omega
          subst this
          have Hown := Lib.hid hown
          clear hown
          go_wp2_with fail
          go_roundw
          case rel => exact ⟨i + 1, B, d, m, by omega, by go_num, rfl, by unfold Hid; rw [stepAcc_succ, ← Hn.out]; exact HM.out, hS0, by rw [stepAcc_succ, ← Hn.out]; exact Hown.out, hW0⟩
          case measure => simp [intOf]; omega
    · have : i = s.size := by omega
      subst this
      go_wp2_with fail
      go_ret
      rw [HE.out, ← HM.out]
      exact ⟨_, _, rfl, own_mono hown (by omega), hW0⟩

end Go.Proofs.YteafeecndghapaaGreat
