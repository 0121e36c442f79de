/- Walks over steps, StepsOf, slices.Index and slices.Contains at steps, ApplyStep and SidesOf of the program, SidesOf of the reference, and IsJoined of both. -/
import Derived.Test.YteafeecndghapaaGreatMg10
import Derived.Test.YteafeecndghapaaGreatNorm
import Derived.Deep.RegionLaw
namespace Go.Proofs.YteafeecndghapaaGreat
open Go.RowKit Go.Shelf

set_option maxRecDepth 100000 in
set_option maxHeartbeats 4000000 in
theorem implSteps_any (l : Int) (A : Option Addr) (n c : Nat) (rs : List RuleT) (s : ByteArray) (w : World) (hr : Rd w A (cellsRule rs)) (hn : n = rs.length) (hb : n ≤ 1048576) (hz : ∀ x ∈ rs, x.1.size ≤ 1048576 ∧ x.2.size ≤ 1048576) (hs : s.size ≤ 1048576) (h12 : n ≤ 12) :
    Calls Tryz.prog 111 #[.agg #[.int .i64 l, .slice A n c], .string s] w (MadeSl w 56 2 (stepAcc rs s s.size).length (cellsStep (stepAcc rs s s.size))) := by
  have hW0 : Below w.heap.size w (w.alloc (.cells #[.int .i64 l, .slice A n c] 25)) := (Below.refl _ _).alloc (Nat.le_refl _) _
  have hS0 := Bk.new w 25 #[.int .i64 l, .slice A n c]
  have Hr := Lib.hid hr
  clear hr
  have Hn := Lib.hid hn
  clear hn
  have Hz := Lib.hid hz
  clear hz
  go_enter Tryz.func111, Tryz.ntmps111
  go_wp2_with fail
  go_loopw [5, 11] (fun v i wr => ∃ (q : Nat) (B : Option Addr) (d m : Nat), q ≤ s.size ∧ i = .int .i64 q ∧ v = .slice B m d ∧ Hid (m = (stepAcc rs s q).length) ∧ Bk wr w.heap.size 25 #[.int .i64 l, .slice A n c] ∧ wr.ownsRow (w.heap.size + 1) 56 2 (.slice B m d) m (cellsStep (stepAcc rs s q)) ∧ Below w.heap.size w wr) (fun _ i _ => s.size - (intOf i).toNat)
  case atStart => exact ⟨0, none, 0, 0, Nat.zero_le _, rfl, rfl, rfl, hS0, World.ownsRow_nil _ _ _ _, hW0⟩
  case round =>
    clear hS0 hW0
    obtain ⟨i, B, d, m, hi, rfl, rfl, HM, hS0, hown, hW0⟩ := hrel
    by_cases hlt : i < s.size
    · skip
      have hiS : i ≤ s.size := by omega
      have s0_0 : wr.cell? ⟨w.heap.size, 0, none⟩ = some (.int .i64 l) := by rw [hS0.cell]; rfl
      have s1_0 : wr.cell? ⟨w.heap.size, 1, none⟩ = some (.slice A n c) := by rw [hS0.cell]; rfl
      have sl_0 := hS0.lt
      have Hown := Lib.hid hown
      clear hown
      go_wp2_with fail
      go_loopw [5, 17] (fun v k wr => ∃ (q : Nat) (B : Option Addr) (d m : Nat), q ≤ n ∧ k = .int .i64 q ∧ v = .slice B m d ∧ Hid (m = (stepTo rs s i q).length) ∧ Bk wr w.heap.size 25 #[.int .i64 l, .slice A n c] ∧ wr.ownsRow (w.heap.size + 1) 56 2 (.slice B m d) m (cellsStep (stepTo rs s i q)) ∧ Below w.heap.size w wr) (fun _ k _ => n - (intOf k).toNat)
      case atStart => exact ⟨0, B, d, m, Nat.zero_le _, rfl, rfl, by unfold Hid; rw [stepTo_zero]; exact HM.out, hS0, by rw [stepTo_zero]; exact Hown.out, hW0⟩
      case round =>
        clear hS0 hW0 s0_0 s1_0 sl_0 HM Hown
        obtain ⟨k, B, d, m, hk, rfl, rfl, HM, hS0, hown, hW0⟩ := hrel
        by_cases hltk : k < n
        · have hk2 : k < rs.length := by rw [← Hn.out]; exact hltk
          have hml : m ≤ i * 12 + 12 := by rw [HM.out]; exact stepTo_len rs s i k (by rw [← Hn.out]; exact h12) (by omega)
          obtain ⟨b, o, rfl, hbl, p0, p1⟩ := rd_Rule (Hr.out.keep hW0) hk2
          obtain ⟨⟨v0, v1⟩, hv⟩ : ∃ v, v = rs[k] := ⟨_, rfl⟩
          have z0 : v0.size ≤ 1048576 := by have := (Hz.out rs[k] (List.getElem_mem hk2)).1; rw [← hv] at this; exact this
          rw [← hv] at p0 p1
          dsimp only at p0 p1
          have hA_ : ruleAt rs k = (v0, v1) := by rw [ruleAt_get hk2, hv]
          have hW1 := hW0.alloc hW0.size (.cells #[.string v0, .string v1] 68)
          have hS1 := hS0.alloc (.cells #[.string v0, .string v1] 68)
          have hown1 := own_keep hown ((Below.refl _ wr).alloc (Nat.le_refl _) (.cells #[.string v0, .string v1] 68)) (Nat.le_refl _)
          have zx : (s.extract i s.size).size ≤ 1048576 := by simp; omega
          have eC : ∀ W, Below (wr.alloc (.cells #[.string v0, .string v1] 68)).drew.heap.size (wr.alloc (.cells #[.string v0, .string v1] 68)).drew W → W.cell? ⟨wr.heap.size, 0, none⟩ = some (.string v0) := fun W hb => by
            have hX := Bk.new wr 68 #[.string v0, .string v1]
            rw [(hX.drew.below hb (by simp)).cell]; rfl
          have zC := eC _ (Below.refl _ _)
          obtain ⟨r, hrr⟩ : ∃ r', r' = hasAt s v0 (i) := ⟨_, rfl⟩
          have hpr : hasPre (s.extract i s.size) v0 = r := by rw [hasPre_at s v0 i (by omega)]; exact hrr.symm
          have hit : hitAt rs s (i) k = r := by rw [hitAt, hA_]; exact hrr.symm
          clear hrr hown
          have Hit := Lib.hid hit
          clear hit
          have Hpr := Lib.hid hpr
          clear hpr
          have EC := Lib.hid eC
          clear eC
          have ZC := Lib.hid zC
          clear zC
          have Hv := Lib.hid hv
          clear hv
          have HA_ := Lib.hid hA_
          clear hA_
          have HS0 := Lib.hid hS0
          clear hS0
          have HS1 := Lib.hid hS1
          clear hS1
          have HW0 := Lib.hid hW0
          clear hW0
          have HW1 := Lib.hid hW1
          clear hW1
          have Hown1 := Lib.hid hown1
          clear hown1
          go_wp2_with fail
          go_region_held3 (fun W => W.cell? ⟨wr.heap.size, 0, none⟩ = some (.string v0)) (first | exact ZC.out | exact EC.out _ b2) (((with_reducible refine (hasPrefix_any (s.extract i s.size) v0 _ (by omega) (by omega)).mono ?_); rintro e w2 ⟨rfl, b2⟩; rw [Hpr.out]))
          have b3 : Below (wr.alloc (.cells #[.string v0, .string v1] 68)).heap.size (wr.alloc (.cells #[.string v0, .string v1] 68)) w2 := by first | exact b2 | exact ((Below.refl _ _).drew).trans b2
          have hW2 := HW1.out.trans (b3.mono HW1.out.size)
          have hS2 := HS1.out.below b3 HS1.out.lt
          have hown2 := own_keep Hown1.out b3 (Nat.le_refl _)
          have hsl2 := hS2.lt
          clear b2 b3 EC ZC HS0 HS1 HW0 HW1 Hown1
          cases r
          · go_wp2_with fail
            go_roundw
            case rel => exact ⟨k + 1, B, d, m, by omega, by go_num, rfl, by unfold Hid; rw [stepTo_no Hit.out]; exact HM.out, hS2, by rw [stepTo_no Hit.out]; exact hown2, hW2⟩
            case measure => simp [intOf] <;> omega
          · go_wp2_with (at_builtin; refine wpList_app1 _ w2 rfl _ _ 121 rfl (w.heap.size + 1) 56 2 16 _ Tryz.underlying121 info_Step rfl (by omega) _ _ _ _ rfl rfl rfl hown2 rfl (one_cell_step _ _) (by omega) (by unfold maxLen; omega) (by omega) ?_; intro A5 c5 w5 hO5 hW5)
            have hW6 := hW2.trans (hW5.mono (by omega))
            have hS6 := hS2.below hW5 (by omega)
            have hO6 : w5.ownsRow (w.heap.size + 1) 56 2 (.slice A5 (m + 1) c5) (m + 1) (cellsStep (stepTo rs s i (k + 1))) := by rw [stepTo_yes Hit.out, cellsStep_snoc]; exact hO5
            clear hO5 hown2
            go_wp2_with fail
            go_roundw
            case rel => exact ⟨k + 1, A5, c5, m + 1, by omega, by go_num, rfl, by unfold Hid; rw [stepTo_yes Hit.out, List.length_append, HM.out]; rfl, hS6, hO6, hW6⟩
            case measure => simp [intOf] <;> omega
        · have : k = n := by omega
          subst this
          have Hown := Lib.hid hown
          clear hown
          go_wp2_with fail
          go_roundw
          case rel => exact ⟨i + 1, B, d, m, by omega, by go_num, rfl, by unfold Hid; rw [stepAcc_succ, ← Hn.out]; exact HM.out, hS0, by rw [stepAcc_succ, ← Hn.out]; exact Hown.out, hW0⟩
          case measure => simp [intOf] <;> omega
    · have : i = s.size := by omega
      subst this
      go_wp2_with fail
      go_ret
      rw [← HM.out]
      exact ⟨_, _, rfl, own_mono hown (by omega), hW0⟩

set_option maxRecDepth 100000 in
set_option maxHeartbeats 1000000 in
theorem implStepsOf_any (l : Int) (A : Option Addr) (n c : Nat) (rs : List RuleT) (s : ByteArray) (w : World) (hr : Rd w A (cellsRule rs)) (hn : n = rs.length) (hb : n ≤ 1048576) (hz : ∀ x ∈ rs, x.1.size ≤ 1048576 ∧ x.2.size ≤ 1048576) (hs : s.size ≤ 1048576) :
    Calls Tryz.prog 103 #[.agg #[.int .i64 l, .slice A n c], .string s] w (MadeSl w 56 2 (stepsOf l rs s).length (cellsStep (stepsOf l rs s))) := by
  have hW0 : Below w.heap.size w (w.alloc (.cells #[.int .i64 l, .slice A n c] 25)) := (Below.refl _ _).alloc (Nat.le_refl _) _
  have hS0 := Bk.new w 25 #[.int .i64 l, .slice A n c]
  have Hr := Lib.hid hr
  clear hr
  have Hn := Lib.hid hn
  clear hn
  have Hz := Lib.hid hz
  clear hz
  go_enter Tryz.func103, Tryz.ntmps103
  go_wp2_with fail
  with_reducible refine (implRulesOk_any l A n c rs _ (Hr.out.keep hW0) Hn.out hb Hz.out).mono ?_
  rintro e w1 ⟨rfl, b1⟩
  have hW1 := hW0.trans (b1.mono hW0.size)
  have hS1 := hS0.below b1 hS0.lt
  have s0_1 : w1.cell? ⟨w.heap.size, 0, none⟩ = some (.int .i64 l) := by rw [hS1.cell]; rfl
  have s1_1 : w1.cell? ⟨w.heap.size, 1, none⟩ = some (.slice A n c) := by rw [hS1.cell]; rfl
  have sl_1 := hS1.lt
  clear b1
  obtain ⟨r1, hrr⟩ : ∃ r', r' = (rulesOk l rs) := ⟨_, rfl⟩
  rw [← hrr]
  have H1 := Lib.hid hrr
  clear hrr
  cases r1
  · go_wp2_with fail
    go_ret
    have e : stepsOf l rs s = [] := by rw [stepsOf, ← H1.out]; rfl
    rw [e]
    exact ⟨_, _, rfl, World.ownsRow_nil _ _ _ _, hW1⟩
  have h12 := rulesOk_12 H1.out.symm
  rw [← Hn.out] at h12
  have hE : stepsOf l rs s = stepAcc rs s s.size := by rw [stepsOf, ← H1.out]; rfl
  have HE := Lib.hid hE
  clear hE
  go_wp2_with fail
  refine (implSteps_any l A n c rs s _ (Hr.out.keep hW1) Hn.out hb Hz.out hs h12).mono ?_
  rintro e w2 ⟨B, d, rfl, hO, b2⟩
  have hW2 := hW1.trans (b2.mono hW1.size)
  have hO2 := own_mono hO hW1.size
  clear hO
  have HO2 := Lib.hid hO2
  clear hO2
  go_wp2_with fail
  go_ret
  rw [HE.out]
  exact ⟨B, d, rfl, HO2.out, hW2⟩

set_option maxRecDepth 100000 in
set_option maxHeartbeats 2000000 in
theorem indexStep_any (A : Option Addr) (n c : Nat) (xs : List StepT) (x0 x1 : Int) (w : World) (hr : Rd w A (cellsStep xs)) (hn : n = xs.length) (hb : n ≤ 9223372036854775807) :
    Calls Tryz.prog 110 #[.slice A n c, .agg #[.int .i64 x0, .int .i64 x1]] w (fun e w' => ∃ r : Int, e = .returned (.int .i64 r) ∧ (0 ≤ r ↔ (x0, x1) ∈ xs) ∧ Below w.heap.size w w') := by
  have hW0 : Below w.heap.size w (w.alloc (.cells #[.int .i64 x0, .int .i64 x1] 56)) := (Below.refl _ _).alloc (Nat.le_refl _) _
  have hX0 := Bk.new w 56 #[.int .i64 x0, .int .i64 x1]
  have Hr := Lib.hid hr
  clear hr
  have Hn := Lib.hid hn
  clear hn
  go_enter Tryz.func110, Tryz.ntmps110
  go_wp2_with fail
  go_loopw [8] (fun i wr => ∃ (q : Nat), q ≤ n ∧ i = .int .i64 q ∧ Hid (¬ (x0, x1) ∈ xs.take q) ∧ Bk wr w.heap.size 56 #[.int .i64 x0, .int .i64 x1] ∧ Below w.heap.size w wr) (fun i _ => n - (intOf i).toNat)
  case atStart => exact ⟨0, Nat.zero_le _, rfl, by simp [Hid], hX0, hW0⟩
  case round =>
    clear hX0 hW0
    obtain ⟨j, hj, rfl, HA, hX0, hWr⟩ := hrel
    by_cases hlt : j < n
    · have hlt2 : j < xs.length := by rw [← Hn.out]; exact hlt
      obtain ⟨b, o, rfl, hbl, p0, p1⟩ := rd_Step (Hr.out.keep hWr) hlt2
      obtain ⟨⟨y0, y1⟩, hy⟩ : ∃ y, y = xs[j] := ⟨_, rfl⟩
      rw [← hy] at p0 p1
      dsimp only at p0 p1
      have p0' : wr.drew.cell? ⟨b, o + j * 2, none⟩ = some (.int .i64 y0) := p0
      have p1' : wr.drew.cell? ⟨b, o + j * 2 + 1, none⟩ = some (.int .i64 y1) := p1
      have k0 : wr.drew.cell? ⟨w.heap.size, 0, none⟩ = some (.int .i64 x0) := by rw [hX0.drew.cell]; rfl
      have k1 : wr.drew.cell? ⟨w.heap.size, 1, none⟩ = some (.int .i64 x1) := by rw [hX0.drew.cell]; rfl
      have hnext : ¬ (x0, x1) = (y0, y1) → Hid (¬ (x0, x1) ∈ xs.take (j + 1)) := fun hne => by
        unfold Hid
        rw [List.take_succ_eq_append_getElem hlt2, List.mem_append, List.mem_singleton, ← hy]
        intro h
        rcases h with h | h
        · exact HA.out h
        · exact hne h
      by_cases h0 : x0 = y0
      rotate_left
      · have hne := hnext (by intro e; exact h0 (congrArg Prod.fst e))
        clear hnext
        have q0 : (x0 == y0) = false := by simp [h0]
        have Hne := Lib.hid hne
        clear hne
        have Hy := Lib.hid hy
        clear hy
        go_wp2_with fail
        go_region
        all_goals
          go_wp2_with fail
          go_roundw
          case rel => exact ⟨j + 1, by omega, by go_num, Hne.out, hX0.drew, hWr.drew⟩
          case measure => simp [intOf] <;> omega
      by_cases h1 : x1 = y1
      rotate_left
      · have hne := hnext (by intro e; exact h1 (congrArg Prod.snd e))
        clear hnext
        have q1 : (x1 == y1) = false := by simp [h1]
        have Hne := Lib.hid hne
        clear hne
        have Hy := Lib.hid hy
        clear hy
        go_wp2_with fail
        go_region
        all_goals
          go_wp2_with fail
          go_roundw
          case rel => exact ⟨j + 1, by omega, by go_num, Hne.out, hX0.drew, hWr.drew⟩
          case measure => simp [intOf] <;> omega
      have hin : (x0, x1) ∈ xs := by rw [h0, h1, hy]; exact List.getElem_mem hlt2
      clear hnext
      subst h0 h1
      have Hin := Lib.hid hin
      clear hin
      have Hy := Lib.hid hy
      clear hy
      go_wp2_with fail
      go_region
      all_goals
        go_wp2_with fail
        go_ret
        exact ⟨_, rfl, ⟨fun _ => Hin.out, fun _ => by omega⟩, hWr.drew⟩
    · have : j = n := by omega
      subst this
      have hno : ¬ (x0, x1) ∈ xs := by have := HA.out; rwa [List.take_of_length_le (by rw [← Hn.out]; omega)] at this
      have Hno := Lib.hid hno
      clear hno
      go_wp2_with fail
      go_ret
      exact ⟨_, rfl, ⟨fun h => absurd h (by omega), fun h => absurd h Hno.out⟩, hWr⟩

set_option maxRecDepth 100000 in
set_option maxHeartbeats 1000000 in
theorem containsStep_any (A : Option Addr) (n c : Nat) (xs : List StepT) (x0 x1 : Int) (w : World) (hr : Rd w A (cellsStep xs)) (hn : n = xs.length) (hb : n ≤ 9223372036854775807) :
    Calls Tryz.prog 102 #[.slice A n c, .agg #[.int .i64 x0, .int .i64 x1]] w (Kept w (.bool (decide ((x0, x1) ∈ xs)))) := by
  have hW0 : Below w.heap.size w (w.alloc (.cells #[.int .i64 x0, .int .i64 x1] 56)) := (Below.refl _ _).alloc (Nat.le_refl _) _
  have Hr := Lib.hid hr
  clear hr
  have Hn := Lib.hid hn
  clear hn
  go_enter Tryz.func102, Tryz.ntmps102
  go_wp2_with fail
  refine (indexStep_any A n c xs x0 x1 _ (Hr.out.keep hW0) Hn.out hb).mono ?_
  rintro e w1 ⟨r, rfl, hri, b1⟩
  have hW1 := hW0.trans (b1.mono hW0.size)
  obtain ⟨q, hq⟩ : ∃ q, q = decide ((x0, x1) ∈ xs) := ⟨_, rfl⟩
  rw [← hq]
  by_cases h0 : (0 : Int) ≤ r
  · have e1 : q = true := by rw [hq]; exact decide_eq_true (hri.1 h0)
    subst e1
    clear hri
    have Hq := Lib.hid hq
    clear hq
    go_wp2_with fail
    go_ret
    exact ⟨ret_bool (by first | rfl | (rw [← Hq.out]; done) | (rw [← Hq.out]; simpa using h0)), hW1⟩
  · have e1 : q = false := by rw [hq]; exact decide_eq_false (fun h => h0 (hri.2 h))
    subst e1
    clear hri
    have Hq := Lib.hid hq
    clear hq
    go_wp2_with fail
    go_ret
    exact ⟨ret_bool (by first | rfl | (rw [← Hq.out]; done) | (rw [← Hq.out]; simpa using h0)), hW1⟩

/-- The two words of a pair, whether both can be reached, and whether they have one reduced form, in plain words. -/
def pairOk (l : Int) (rs : List RuleT) (s : ByteArray) (x y : StepT) : Bool := systemOk l rs && asOk l rs s x && asOk l rs s y
def sideS (l : Int) (rs : List RuleT) (s : ByteArray) (x y z : StepT) : ByteArray := if pairOk l rs s x y then asS l rs s z else ⟨#[]⟩
def joined (l : Int) (rs : List RuleT) (s : ByteArray) (x0 x1 y0 y1 : Int) : Bool := pairOk l rs s (x0, x1) (y0, y1) && takesOk l rs (asS l rs s (x0, x1)) && takesOk l rs (asS l rs s (y0, y1)) && ((nfS l rs (asS l rs s (x0, x1))).toList == (nfS l rs (asS l rs s (y0, y1))).toList)
theorem asS_size {l : Int} {rs : List RuleT} {s : ByteArray} {x : StepT} (h : asOk l rs s x = true) : (asS l rs s x).size ≤ 1048576 := by
  by_cases hm : x ∈ stepsOf l rs s
  · rw [(as_yes hm).2]
    have := apply_size (steps_mem hm).2
    omega
  · rw [(as_no hm).1] at h
    cases h

set_option maxRecDepth 100000 in
set_option maxHeartbeats 2000000 in
theorem implApplyStep_any (l : Int) (A : Option Addr) (n c : Nat) (rs : List RuleT) (s : ByteArray) (x0 x1 : Int) (w : World) (hr : Rd w A (cellsRule rs)) (hn : n = rs.length) (hb : n ≤ 1048576) (hz : ∀ x ∈ rs, x.1.size ≤ 1048576 ∧ x.2.size ≤ 1048576) (hs : s.size ≤ 1048576) :
    Calls Tryz.prog 87 #[.agg #[.int .i64 l, .slice A n c], .string s, .agg #[.int .i64 x0, .int .i64 x1]] w (Kept w (.tuple #[.string (asS l rs s (x0, x1)), .bool (asOk l rs s (x0, x1))])) := by
  have hW0 : Below w.heap.size w ((w.alloc (.cells #[.int .i64 l, .slice A n c] 25)).alloc (.cells #[.int .i64 x0, .int .i64 x1] 56)) := ((Below.refl _ _).alloc (Nat.le_refl _) _).alloc (by simp) _
  have hS0 : Bk ((w.alloc (.cells #[.int .i64 l, .slice A n c] 25)).alloc (.cells #[.int .i64 x0, .int .i64 x1] 56)) w.heap.size 25 #[.int .i64 l, .slice A n c] := (Bk.new w _ _).alloc _
  have hX0 : Bk ((w.alloc (.cells #[.int .i64 l, .slice A n c] 25)).alloc (.cells #[.int .i64 x0, .int .i64 x1] 56)) (w.heap.size + 1) 56 #[.int .i64 x0, .int .i64 x1] := (Bk.new (w.alloc (.cells #[.int .i64 l, .slice A n c] 25)) 56 #[.int .i64 x0, .int .i64 x1]).cast (by simp)
  generalize hw0 : ((w.alloc (.cells #[.int .i64 l, .slice A n c] 25)).alloc (.cells #[.int .i64 x0, .int .i64 x1] 56)) = w0 at hW0 hS0 hX0
  have hV0 : Below w0.heap.size w0 w0.drew := (Below.refl _ _).drew
  have eS : ∀ W, Below w0.heap.size w0 W → W.cell? ⟨w.heap.size, 0, none⟩ = some (.int .i64 l) ∧ W.cell? ⟨w.heap.size, 1, none⟩ = some (.slice A n c) ∧ W.cell? ⟨w.heap.size + 1, 0, none⟩ = some (.int .i64 x0) ∧ W.cell? ⟨w.heap.size + 1, 1, none⟩ = some (.int .i64 x1) := fun W h => ⟨by rw [(hS0.below h hS0.lt).cell]; rfl, by rw [(hS0.below h hS0.lt).cell]; rfl, by rw [(hX0.below h hX0.lt).cell]; rfl, by rw [(hX0.below h hX0.lt).cell]; rfl⟩
  have eR : ∀ W, Below w0.heap.size w0 W → Rd W A (cellsRule rs) := fun W h => hr.keep (hW0.trans (h.mono hW0.size))
  have eW : ∀ W, Below w0.heap.size w0 W → Below w.heap.size w W := fun W h => hW0.trans (h.mono hW0.size)
  have hlen := steps_len (l := l) (rs := rs) hs
  clear hr hS0 hX0 hW0
  have Hn := Lib.hid hn
  clear hn
  have Hz := Lib.hid hz
  clear hz
  have ES := Lib.hid eS
  clear eS
  have ER := Lib.hid eR
  clear eR
  have EW := Lib.hid eW
  clear eW
  go_enter Tryz.func87, Tryz.ntmps87
  go_wp2_with fail
  (try rw [hw0])
  clear hw0
  refine wp_region_held_drew (S := (fun W => W.cell? ⟨w.heap.size, 0, none⟩ = some (.int .i64 l) ∧ W.cell? ⟨w.heap.size, 1, none⟩ = some (.slice A n c) ∧ W.cell? ⟨w.heap.size + 1, 0, none⟩ = some (.int .i64 x0) ∧ W.cell? ⟨w.heap.size + 1, 1, none⟩ = some (.int .i64 x1))) (by kernel_rfl) (ES.out _ hV0) (fun hHeld => ?_)
  refine wpAnyH_take (i := 0) (oi := ?oi333) (v := ?val333) ?hi333 ?hs333 ?hf333 ?hr333 ?hQ333 ?hy333 ?hS333 ?hrest333
  case hi333 => (simp only [List.getElem?_toArray, List.getElem?_cons_succ, List.getElem?_cons_zero] <;> exact rfl)
  case hs333 => kernel_rfl
  case hf333 => kernel_rfl
  case hr333 => kernel_rfl
  case hQ333 => exact fun _ _ _ h => h
  case hS333 => assumption
  case hy333 => (refine Or.inl ⟨by rfl, ?_⟩; intro w hSw; (try dsimp only at hSw); obtain ⟨z0, z1, z2, z3⟩ := hSw; go_simp; try with_reducible rfl)
  simp only [Act.put, List.setIfInBounds_toArray, List.set_cons_zero, List.set_cons_succ]
  refine wpAnyH_take (i := 1) (oi := ?oi342) (v := ?val342) ?hi342 ?hs342 ?hf342 ?hr342 ?hQ342 ?hy342 ?hS342 ?hrest342
  case hi342 => (simp only [List.getElem?_toArray, List.getElem?_cons_succ, List.getElem?_cons_zero] <;> exact rfl)
  case hs342 => kernel_rfl
  case hf342 => kernel_rfl
  case hr342 => kernel_rfl
  case hQ342 => exact fun _ _ _ h => h
  case hS342 => assumption
  case hy342 => (refine Or.inl ⟨by rfl, ?_⟩; intro w hSw; (try dsimp only at hSw); obtain ⟨z0, z1, z2, z3⟩ := hSw; go_simp; try with_reducible rfl)
  simp only [Act.put, List.setIfInBounds_toArray, List.set_cons_zero, List.set_cons_succ]
  refine wpAnyH_take (i := 3) (oi := ?oi351) (v := ?val351) ?hi351 ?hs351 ?hf351 ?hr351 ?hQ351 ?hy351 ?hS351 ?hrest351
  case hi351 => (simp only [List.getElem?_toArray, List.getElem?_cons_succ, List.getElem?_cons_zero] <;> exact rfl)
  case hs351 => kernel_rfl
  case hf351 => kernel_rfl
  case hr351 => kernel_rfl
  case hQ351 => exact fun _ _ _ h => h
  case hS351 => assumption
  case hy351 => (refine Or.inl ⟨by rfl, ?_⟩; intro w hSw; (try dsimp only at hSw); obtain ⟨z0, z1, z2, z3⟩ := hSw; go_simp; try with_reducible rfl)
  simp only [Act.put, List.setIfInBounds_toArray, List.set_cons_zero, List.set_cons_succ]
  refine wpAnyH_ready (rs := [2]) (by kernel_rfl) (by simp) ?_
  refine AllReadyH.cons rfl (fun K hK => ?_) AllReadyH.nil
  (go_simp; ((with_reducible refine (implStepsOf_any l A n c rs s _ (ER.out _ hV0) Hn.out hb Hz.out hs).mono ?_); rintro e y1 ⟨B, d, rfl, hO, c1⟩; have hV1 := hV0.trans (c1.mono hV0.size)))
  refine hK.out _ _ (ES.out _ hV1) (fun hHeld2 => ?_)
  clear hK K hHeld
  have hHeld := hHeld2
  clear hHeld2
  first | simp only [Act.put, List.setIfInBounds_toArray, List.set_cons_zero, List.set_cons_succ] | skip
  refine wpAnyH_ready (rs := [4]) (by kernel_rfl) (by simp) ?_
  refine AllReadyH.cons rfl (fun K hK => ?_) AllReadyH.nil
  (go_simp; ((with_reducible refine (containsStep_any B (stepsOf l rs s).length d (stepsOf l rs s) x0 x1 _ (Rd.of_own hO) rfl (by omega)).mono ?_); rintro e y2 ⟨rfl, c2⟩; have hV2 := hV1.trans (c2.mono hV1.size)))
  refine hK.out _ _ (ES.out _ hV2) (fun hHeld2 => ?_)
  clear hK K hHeld
  have hHeld := hHeld2
  clear hHeld2
  first | simp only [Act.put, List.setIfInBounds_toArray, List.set_cons_zero, List.set_cons_succ] | skip
  clear hO c1 c2 hV0 hV1
  obtain ⟨q, hq⟩ : ∃ q, q = decide ((x0, x1) ∈ stepsOf l rs s) := ⟨_, rfl⟩
  rw [← hq]
  obtain ⟨z0, z1, z2, z3⟩ := ES.out _ hV2
  have hrd := ER.out _ hV2
  have hWw := EW.out _ hV2
  cases q
  · have hno : ¬ (x0, x1) ∈ stepsOf l rs s := of_decide_eq_false hq.symm
    obtain ⟨e1, e2⟩ := as_no hno
    have E1 := Lib.hid e1
    clear e1
    have E2 := Lib.hid e2
    clear e2
    have Hno := Lib.hid hno
    clear hno
    have Hq := Lib.hid hq
    clear hq
    have Hrd := Lib.hid hrd
    clear hrd
    have HWw := Lib.hid hWw
    clear hWw
    refine wpAnyH_take (i := 5) (oi := ?oi397) (v := ?val397) ?hi397 ?hs397 ?hf397 ?hr397 ?hQ397 ?hy397 ?hS397 ?hrest397
    case hi397 => (simp only [List.getElem?_toArray, List.getElem?_cons_succ, List.getElem?_cons_zero] <;> exact rfl)
    case hs397 => kernel_rfl
    case hf397 => kernel_rfl
    case hr397 => kernel_rfl
    case hQ397 => exact fun _ _ _ h => h
    case hS397 => assumption
    case hy397 => (refine Or.inl ⟨by rfl, ?_⟩; intro w hSw; (try dsimp only at hSw); obtain ⟨z0, z1, z2, z3⟩ := hSw; go_simp; try with_reducible rfl)
    simp only [Act.put, List.setIfInBounds_toArray, List.set_cons_zero, List.set_cons_succ]
    refine wpAnyH_done (by kernel_rfl) ?_ _
    go_wp2_with fail
    go_ret2
    exact ⟨by rw [E1.out, E2.out]; rfl, HWw.out⟩
  · have hin : (x0, x1) ∈ stepsOf l rs s := of_decide_eq_true hq.symm
    obtain ⟨hro, hma⟩ := steps_mem hin
    obtain ⟨e1, e2⟩ := as_yes hin
    obtain ⟨K, P, hxe, hK, hP, -⟩ := mem_step hma
    have hx0 : x0 = (K : Int) := congrArg Prod.fst hxe
    clear hma hxe
    have E1 := Lib.hid e1
    clear e1
    have E2 := Lib.hid e2
    clear e2
    have Hin := Lib.hid hin
    clear hin
    have Hq := Lib.hid hq
    clear hq
    have Hrd := Lib.hid hrd
    clear hrd
    have HWw := Lib.hid hWw
    clear hWw
    have Hro := Lib.hid hro
    clear hro
    have Hx0 := Lib.hid hx0
    clear hx0
    refine wpAnyH_take (i := 5) (oi := ?oi432) (v := ?val432) ?hi432 ?hs432 ?hf432 ?hr432 ?hQ432 ?hy432 ?hS432 ?hrest432
    case hi432 => (simp only [List.getElem?_toArray, List.getElem?_cons_succ, List.getElem?_cons_zero] <;> exact rfl)
    case hs432 => kernel_rfl
    case hf432 => kernel_rfl
    case hr432 => kernel_rfl
    case hQ432 => exact fun _ _ _ h => h
    case hS432 => assumption
    case hy432 => (refine Or.inl ⟨by rfl, ?_⟩; intro w hSw; (try dsimp only at hSw); obtain ⟨z0, z1, z2, z3⟩ := hSw; go_simp; try with_reducible rfl)
    simp only [Act.put, List.setIfInBounds_toArray, List.set_cons_zero, List.set_cons_succ]
    refine wpAnyH_done (by kernel_rfl) ?_ _
    go_wp2_with fail
    with_reducible refine (implApply_any l A n c rs s x0 x1 K _ Hrd.out Hn.out hb Hz.out hs Hx0.out hK).mono ?_
    rintro e w3 ⟨rfl, b3⟩
    obtain ⟨a, ha⟩ : ∃ a, a = applyS rs s (x0, x1) := ⟨_, rfl⟩
    obtain ⟨g, hg⟩ : ∃ g, g = applyOk rs s (x0, x1) := ⟨_, rfl⟩
    rw [← ha, ← hg]
    have Ha := Lib.hid ha
    clear ha
    have Hg := Lib.hid hg
    clear hg
    go_wp2_with fail
    go_ret2
    exact ⟨by rw [E1.out, E2.out, Ha.out, Hg.out]; rfl, HWw.out.trans (b3.mono HWw.out.size)⟩

set_option maxRecDepth 100000 in
set_option maxHeartbeats 2000000 in
theorem specSidesOf_any (l : Int) (A : Option Addr) (n c : Nat) (rs : List RuleT) (s : ByteArray) (x0 x1 y0 y1 : Int) (w : World) (hr : Rd w A (cellsRule rs)) (hn : n = rs.length) (hb : n ≤ 1048576) (hz : ∀ x ∈ rs, x.1.size ≤ 1048576 ∧ x.2.size ≤ 1048576) (hs : s.size ≤ 1048576) :
    Calls Tryz.prog 93 #[.agg #[.int .i64 l, .slice A n c], .agg #[.string s, .int .i64 x0, .int .i64 x1, .int .i64 y0, .int .i64 y1]] w (Kept w (.tuple #[.string (sideS l rs s (x0, x1) (y0, y1) (x0, x1)), .string (sideS l rs s (x0, x1) (y0, y1) (y0, y1)), .bool (pairOk l rs s (x0, x1) (y0, y1))])) := by
  have hW0 : Below w.heap.size w ((w.alloc (.cells #[.int .i64 l, .slice A n c] 25)).alloc (.cells #[.string s, .int .i64 x0, .int .i64 x1, .int .i64 y0, .int .i64 y1] 77)) := ((Below.refl _ _).alloc (Nat.le_refl _) _).alloc (by simp) _
  have hS0 : Bk ((w.alloc (.cells #[.int .i64 l, .slice A n c] 25)).alloc (.cells #[.string s, .int .i64 x0, .int .i64 x1, .int .i64 y0, .int .i64 y1] 77)) w.heap.size 25 #[.int .i64 l, .slice A n c] := (Bk.new w _ _).alloc _
  have hX0 : Bk ((w.alloc (.cells #[.int .i64 l, .slice A n c] 25)).alloc (.cells #[.string s, .int .i64 x0, .int .i64 x1, .int .i64 y0, .int .i64 y1] 77)) (w.heap.size + 1) 77 #[.string s, .int .i64 x0, .int .i64 x1, .int .i64 y0, .int .i64 y1] := (Bk.new (w.alloc (.cells #[.int .i64 l, .slice A n c] 25)) 77 #[.string s, .int .i64 x0, .int .i64 x1, .int .i64 y0, .int .i64 y1]).cast (by simp)
  have Hr := Lib.hid hr
  clear hr
  have Hn := Lib.hid hn
  clear hn
  have Hz := Lib.hid hz
  clear hz
  go_enter Tryz.func93, Tryz.ntmps93
  go_wp2_with fail
  refine (specSystemOk_any l A n c rs _ (Hr.out.keep hW0) Hn.out hb Hz.out).mono ?_
  rintro e w1 ⟨rfl, b1⟩
  have hW1 := hW0.trans (b1.mono hW0.size)
  have hS1 := hS0.below b1 hS0.lt
  have hX1 := hX0.below b1 hX0.lt
  clear b1 hS0 hX0 hW0
  have s0 : w1.cell? ⟨w.heap.size, 0, none⟩ = some (.int .i64 l) := by rw [hS1.cell]; rfl
  have s1 : w1.cell? ⟨w.heap.size, 1, none⟩ = some (.slice A n c) := by rw [hS1.cell]; rfl
  have k0 : w1.cell? ⟨w.heap.size + 1, 0, none⟩ = some (.string s) := by rw [hX1.cell]; rfl
  have k1 : w1.cell? ⟨w.heap.size + 1, 1, none⟩ = some (.int .i64 x0) := by rw [hX1.cell]; rfl
  have k2 : w1.cell? ⟨w.heap.size + 1, 2, none⟩ = some (.int .i64 x1) := by rw [hX1.cell]; rfl
  obtain ⟨q1, hrr⟩ : ∃ r', r' = (systemOk l rs) := ⟨_, rfl⟩
  rw [← hrr]
  have H1 := Lib.hid hrr
  clear hrr
  cases q1
  · have e0 : pairOk l rs s (x0, x1) (y0, y1) = false := by rw [pairOk, ← H1.out]; rfl
    have e1 : ∀ z, sideS l rs s (x0, x1) (y0, y1) z = ⟨#[]⟩ := fun z => by rw [sideS, e0]; rfl
    have E0 := Lib.hid e0
    clear e0
    have E1 := Lib.hid e1
    clear e1
    go_wp2_with fail
    refine bodyPost_ret (v := .tuple #[.string ⟨#[]⟩, .string ⟨#[]⟩, .bool false]) (by simp [results, Tryz.results93, go_sem]) rfl ?_
    exact ⟨by rw [E0.out, E1.out, E1.out], hW1⟩
  go_wp2_with fail
  refine (specApplyStep_any l A n c rs s x0 x1 _ (Hr.out.keep hW1) Hn.out hb Hz.out hs).mono ?_
  rintro e w2 ⟨rfl, b2⟩
  have hW2 := hW1.trans (b2.mono hW1.size)
  have hS2 := hS1.below b2 hS1.lt
  have hX2 := hX1.below b2 hX1.lt
  clear b2 hS1 hX1 hW1 s0 s1 k0 k1 k2
  have s0 : w2.cell? ⟨w.heap.size, 0, none⟩ = some (.int .i64 l) := by rw [hS2.cell]; rfl
  have s1 : w2.cell? ⟨w.heap.size, 1, none⟩ = some (.slice A n c) := by rw [hS2.cell]; rfl
  have k0 : w2.cell? ⟨w.heap.size + 1, 0, none⟩ = some (.string s) := by rw [hX2.cell]; rfl
  have k3 : w2.cell? ⟨w.heap.size + 1, 3, none⟩ = some (.int .i64 y0) := by rw [hX2.cell]; rfl
  have k4 : w2.cell? ⟨w.heap.size + 1, 4, none⟩ = some (.int .i64 y1) := by rw [hX2.cell]; rfl
  obtain ⟨a, hrr⟩ : ∃ r', r' = (asS l rs s (x0, x1)) := ⟨_, rfl⟩
  rw [← hrr]
  have Ha := Lib.hid hrr
  clear hrr
  obtain ⟨oa, hrr⟩ : ∃ r', r' = (asOk l rs s (x0, x1)) := ⟨_, rfl⟩
  rw [← hrr]
  have Hoa := Lib.hid hrr
  clear hrr
  go_wp2_with fail
  refine (specApplyStep_any l A n c rs s y0 y1 _ (Hr.out.keep hW2) Hn.out hb Hz.out hs).mono ?_
  rintro e w3 ⟨rfl, b3⟩
  have hW3 := hW2.trans (b3.mono hW2.size)
  clear b3 hS2 hX2 hW2 s0 s1 k0 k3 k4
  obtain ⟨b, hrr⟩ : ∃ r', r' = (asS l rs s (y0, y1)) := ⟨_, rfl⟩
  rw [← hrr]
  have Hb := Lib.hid hrr
  clear hrr
  obtain ⟨ob, hrr⟩ : ∃ r', r' = (asOk l rs s (y0, y1)) := ⟨_, rfl⟩
  rw [← hrr]
  have Hob := Lib.hid hrr
  clear hrr
  have e0 : pairOk l rs s (x0, x1) (y0, y1) = (oa && ob) := by rw [pairOk, ← H1.out, ← Hoa.out, ← Hob.out]; rfl
  cases oa
  · have e1 : ∀ z, sideS l rs s (x0, x1) (y0, y1) z = ⟨#[]⟩ := fun z => by rw [sideS, e0]; rfl
    have E0 := Lib.hid e0
    clear e0
    have E1 := Lib.hid e1
    clear e1
    go_wp2_with fail
    refine bodyPost_ret (v := .tuple #[.string ⟨#[]⟩, .string ⟨#[]⟩, .bool false]) (by simp [results, Tryz.results93, go_sem]) rfl ?_
    exact ⟨by rw [E0.out, E1.out, E1.out]; rfl, hW3⟩
  cases ob
  · have e1 : ∀ z, sideS l rs s (x0, x1) (y0, y1) z = ⟨#[]⟩ := fun z => by rw [sideS, e0]; rfl
    have E0 := Lib.hid e0
    clear e0
    have E1 := Lib.hid e1
    clear e1
    go_wp2_with fail
    refine bodyPost_ret (v := .tuple #[.string ⟨#[]⟩, .string ⟨#[]⟩, .bool false]) (by simp [results, Tryz.results93, go_sem]) rfl ?_
    exact ⟨by rw [E0.out, E1.out, E1.out]; rfl, hW3⟩
  · have e1 : ∀ z, sideS l rs s (x0, x1) (y0, y1) z = asS l rs s z := fun z => by rw [sideS, e0]; rfl
    have E0 := Lib.hid e0
    clear e0
    have E1 := Lib.hid e1
    clear e1
    go_wp2_with fail
    refine bodyPost_ret (v := .tuple #[.string a, .string b, .bool true]) (by simp [results, Tryz.results93, go_sem]) rfl ?_
    exact ⟨by rw [E0.out, E1.out, E1.out, ← Ha.out, ← Hb.out]; rfl, hW3⟩

set_option maxRecDepth 100000 in
set_option maxHeartbeats 2000000 in
theorem specIsJoined_any (l : Int) (A : Option Addr) (n c : Nat) (rs : List RuleT) (s : ByteArray) (x0 x1 y0 y1 : Int) (w : World) (hr : Rd w A (cellsRule rs)) (hn : n = rs.length) (hb : n ≤ 1048576) (hz : ∀ x ∈ rs, x.1.size ≤ 1048576 ∧ x.2.size ≤ 1048576) (hs : s.size ≤ 1048576) :
    Calls Tryz.prog 78 #[.agg #[.int .i64 l, .slice A n c], .agg #[.string s, .int .i64 x0, .int .i64 x1, .int .i64 y0, .int .i64 y1]] w (Kept w (.bool (joined l rs s x0 x1 y0 y1))) := by
  have hW0 : Below w.heap.size w ((w.alloc (.cells #[.int .i64 l, .slice A n c] 25)).alloc (.cells #[.string s, .int .i64 x0, .int .i64 x1, .int .i64 y0, .int .i64 y1] 77)) := ((Below.refl _ _).alloc (Nat.le_refl _) _).alloc (by simp) _
  have hS0 : Bk ((w.alloc (.cells #[.int .i64 l, .slice A n c] 25)).alloc (.cells #[.string s, .int .i64 x0, .int .i64 x1, .int .i64 y0, .int .i64 y1] 77)) w.heap.size 25 #[.int .i64 l, .slice A n c] := (Bk.new w _ _).alloc _
  have Hr := Lib.hid hr
  clear hr
  have Hn := Lib.hid hn
  clear hn
  have Hz := Lib.hid hz
  clear hz
  go_enter Tryz.func78, Tryz.ntmps78
  go_wp2_with fail
  with_reducible refine (specSidesOf_any l A n c rs s x0 x1 y0 y1 _ (Hr.out.keep hW0) Hn.out hb Hz.out hs).mono ?_
  rintro e w1 ⟨rfl, b1⟩
  have hW1 := hW0.trans (b1.mono hW0.size)
  have hS1 := hS0.below b1 hS0.lt
  have s0_1 : w1.cell? ⟨w.heap.size, 0, none⟩ = some (.int .i64 l) := by rw [hS1.cell]; rfl
  have s1_1 : w1.cell? ⟨w.heap.size, 1, none⟩ = some (.slice A n c) := by rw [hS1.cell]; rfl
  have sl_1 := hS1.lt
  clear b1
  obtain ⟨ok, hok⟩ : ∃ q, q = pairOk l rs s (x0, x1) (y0, y1) := ⟨_, rfl⟩
  obtain ⟨a, ha⟩ : ∃ q, q = sideS l rs s (x0, x1) (y0, y1) (x0, x1) := ⟨_, rfl⟩
  obtain ⟨b, hbb⟩ : ∃ q, q = sideS l rs s (x0, x1) (y0, y1) (y0, y1) := ⟨_, rfl⟩
  rw [← hok, ← ha, ← hbb]
  cases ok
  · have e1 : joined l rs s x0 x1 y0 y1 = false := by rw [joined, ← hok]; rfl
    have Hok := Lib.hid hok
    clear hok
    have Ha := Lib.hid ha
    clear ha
    have Hbb := Lib.hid hbb
    clear hbb
    have E1 := Lib.hid e1
    clear e1
    go_wp2_with fail
    go_ret
    exact ⟨ret_bool (by rw [E1.out]), hW1⟩
  have ha2 : asS l rs s (x0, x1) = a := by rw [ha, sideS, ← hok]; rfl
  have hb2 : asS l rs s (y0, y1) = b := by rw [hbb, sideS, ← hok]; rfl
  have hoo := hok.symm
  rw [pairOk, Bool.and_eq_true, Bool.and_eq_true] at hoo
  have za : a.size ≤ 1048576 := by rw [← ha2]; exact asS_size hoo.1.2
  have zb : b.size ≤ 1048576 := by rw [← hb2]; exact asS_size hoo.2
  have e1 : joined l rs s x0 x1 y0 y1 = (takesOk l rs a && takesOk l rs b && ((nfS l rs a).toList == (nfS l rs b).toList)) := by rw [joined, ← hok, ha2, hb2]; rfl
  clear hoo
  have Hok := Lib.hid hok
  clear hok
  have Ha := Lib.hid ha
  clear ha
  have Hbb := Lib.hid hbb
  clear hbb
  have Ha2 := Lib.hid ha2
  clear ha2
  have Hb2 := Lib.hid hb2
  clear hb2
  have E1 := Lib.hid e1
  clear e1
  go_wp2_with fail
  with_reducible refine (specNormalForm_any l A n c rs a _ (Hr.out.keep hW1) Hn.out hb Hz.out za).mono ?_
  rintro e w2 ⟨rfl, b2⟩
  have hW2 := hW1.trans (b2.mono hW1.size)
  have hS2 := hS1.below b2 hS1.lt
  have s0_2 : w2.cell? ⟨w.heap.size, 0, none⟩ = some (.int .i64 l) := by rw [hS2.cell]; rfl
  have s1_2 : w2.cell? ⟨w.heap.size, 1, none⟩ = some (.slice A n c) := by rw [hS2.cell]; rfl
  have sl_2 := hS2.lt
  clear b2
  obtain ⟨u, hrr⟩ : ∃ r', r' = (nfS l rs a) := ⟨_, rfl⟩
  rw [← hrr]
  have Hu := Lib.hid hrr
  clear hrr
  obtain ⟨ou, hrr⟩ : ∃ r', r' = (takesOk l rs a) := ⟨_, rfl⟩
  rw [← hrr]
  have Hou := Lib.hid hrr
  clear hrr
  go_wp2_with fail
  with_reducible refine (specNormalForm_any l A n c rs b _ (Hr.out.keep hW2) Hn.out hb Hz.out zb).mono ?_
  rintro e w3 ⟨rfl, b3⟩
  have hW3 := hW2.trans (b3.mono hW2.size)
  have hS3 := hS2.below b3 hS2.lt
  have s0_3 : w3.cell? ⟨w.heap.size, 0, none⟩ = some (.int .i64 l) := by rw [hS3.cell]; rfl
  have s1_3 : w3.cell? ⟨w.heap.size, 1, none⟩ = some (.slice A n c) := by rw [hS3.cell]; rfl
  have sl_3 := hS3.lt
  clear b3
  obtain ⟨v, hrr⟩ : ∃ r', r' = (nfS l rs b) := ⟨_, rfl⟩
  rw [← hrr]
  have Hv := Lib.hid hrr
  clear hrr
  obtain ⟨ov, hrr⟩ : ∃ r', r' = (takesOk l rs b) := ⟨_, rfl⟩
  rw [← hrr]
  have Hov := Lib.hid hrr
  clear hrr
  have e2 : joined l rs s x0 x1 y0 y1 = (ou && ov && (u.toList == v.toList)) := by rw [E1.out, ← Hu.out, ← Hv.out, ← Hou.out, ← Hov.out]
  obtain ⟨q, hq⟩ : ∃ q, q = (u.toList == v.toList) := ⟨_, rfl⟩
  rw [← hq] at e2
  have hq2 := hq.symm
  clear hq
  cases ou
  · skip
    have E2 := Lib.hid e2
    clear e2
    cases ov <;>
    · go_wp2_with fail
      go_ret
      exact ⟨ret_bool (by rw [E2.out]; rfl), hW3⟩
  · cases ov
    · skip
      have E2 := Lib.hid e2
      clear e2
      go_wp2_with fail
      go_ret
      exact ⟨ret_bool (by rw [E2.out]; rfl), hW3⟩
    · skip
      have E2 := Lib.hid e2
      clear e2
      go_wp2_with fail
      go_ret
      exact ⟨ret_bool (by rw [E2.out]; first | rfl | simp [hq2]), hW3⟩

set_option maxRecDepth 100000 in
set_option maxHeartbeats 2000000 in
theorem implSidesOf_any (l : Int) (A : Option Addr) (n c : Nat) (rs : List RuleT) (s : ByteArray) (x0 x1 y0 y1 : Int) (w : World) (hr : Rd w A (cellsRule rs)) (hn : n = rs.length) (hb : n ≤ 1048576) (hz : ∀ x ∈ rs, x.1.size ≤ 1048576 ∧ x.2.size ≤ 1048576) (hs : s.size ≤ 1048576) :
    Calls Tryz.prog 71 #[.agg #[.int .i64 l, .slice A n c], .agg #[.string s, .int .i64 x0, .int .i64 x1, .int .i64 y0, .int .i64 y1]] w (Kept w (.tuple #[.string (sideS l rs s (x0, x1) (y0, y1) (x0, x1)), .string (sideS l rs s (x0, x1) (y0, y1) (y0, y1)), .bool (pairOk l rs s (x0, x1) (y0, y1))])) := by
  have hW0 : Below w.heap.size w ((w.alloc (.cells #[.int .i64 l, .slice A n c] 25)).alloc (.cells #[.string s, .int .i64 x0, .int .i64 x1, .int .i64 y0, .int .i64 y1] 77)) := ((Below.refl _ _).alloc (Nat.le_refl _) _).alloc (by simp) _
  have hS0 : Bk ((w.alloc (.cells #[.int .i64 l, .slice A n c] 25)).alloc (.cells #[.string s, .int .i64 x0, .int .i64 x1, .int .i64 y0, .int .i64 y1] 77)) w.heap.size 25 #[.int .i64 l, .slice A n c] := (Bk.new w _ _).alloc _
  have hX0 : Bk ((w.alloc (.cells #[.int .i64 l, .slice A n c] 25)).alloc (.cells #[.string s, .int .i64 x0, .int .i64 x1, .int .i64 y0, .int .i64 y1] 77)) (w.heap.size + 1) 77 #[.string s, .int .i64 x0, .int .i64 x1, .int .i64 y0, .int .i64 y1] := (Bk.new (w.alloc (.cells #[.int .i64 l, .slice A n c] 25)) 77 #[.string s, .int .i64 x0, .int .i64 x1, .int .i64 y0, .int .i64 y1]).cast (by simp)
  have Hr := Lib.hid hr
  clear hr
  have Hn := Lib.hid hn
  clear hn
  have Hz := Lib.hid hz
  clear hz
  go_enter Tryz.func71, Tryz.ntmps71
  go_wp2_with fail
  refine (implSystemOk_any l A n c rs _ (Hr.out.keep hW0) Hn.out hb Hz.out).mono ?_
  rintro e w1 ⟨rfl, b1⟩
  have hW1 := hW0.trans (b1.mono hW0.size)
  have hS1 := hS0.below b1 hS0.lt
  have hX1 := hX0.below b1 hX0.lt
  clear b1 hS0 hX0 hW0
  have s0 : w1.cell? ⟨w.heap.size, 0, none⟩ = some (.int .i64 l) := by rw [hS1.cell]; rfl
  have s1 : w1.cell? ⟨w.heap.size, 1, none⟩ = some (.slice A n c) := by rw [hS1.cell]; rfl
  have k0 : w1.cell? ⟨w.heap.size + 1, 0, none⟩ = some (.string s) := by rw [hX1.cell]; rfl
  have k1 : w1.cell? ⟨w.heap.size + 1, 1, none⟩ = some (.int .i64 x0) := by rw [hX1.cell]; rfl
  have k2 : w1.cell? ⟨w.heap.size + 1, 2, none⟩ = some (.int .i64 x1) := by rw [hX1.cell]; rfl
  obtain ⟨q1, hrr⟩ : ∃ r', r' = (systemOk l rs) := ⟨_, rfl⟩
  rw [← hrr]
  have H1 := Lib.hid hrr
  clear hrr
  cases q1
  · have e0 : pairOk l rs s (x0, x1) (y0, y1) = false := by rw [pairOk, ← H1.out]; rfl
    have e1 : ∀ z, sideS l rs s (x0, x1) (y0, y1) z = ⟨#[]⟩ := fun z => by rw [sideS, e0]; rfl
    have E0 := Lib.hid e0
    clear e0
    have E1 := Lib.hid e1
    clear e1
    go_wp2_with fail
    refine bodyPost_ret (v := .tuple #[.string ⟨#[]⟩, .string ⟨#[]⟩, .bool false]) (by simp [results, Tryz.results71, go_sem]) rfl ?_
    exact ⟨by rw [E0.out, E1.out, E1.out], hW1⟩
  go_wp2_with fail
  refine (implApplyStep_any l A n c rs s x0 x1 _ (Hr.out.keep hW1) Hn.out hb Hz.out hs).mono ?_
  rintro e w2 ⟨rfl, b2⟩
  have hW2 := hW1.trans (b2.mono hW1.size)
  have hS2 := hS1.below b2 hS1.lt
  have hX2 := hX1.below b2 hX1.lt
  clear b2 hS1 hX1 hW1 s0 s1 k0 k1 k2
  have s0 : w2.cell? ⟨w.heap.size, 0, none⟩ = some (.int .i64 l) := by rw [hS2.cell]; rfl
  have s1 : w2.cell? ⟨w.heap.size, 1, none⟩ = some (.slice A n c) := by rw [hS2.cell]; rfl
  have k0 : w2.cell? ⟨w.heap.size + 1, 0, none⟩ = some (.string s) := by rw [hX2.cell]; rfl
  have k3 : w2.cell? ⟨w.heap.size + 1, 3, none⟩ = some (.int .i64 y0) := by rw [hX2.cell]; rfl
  have k4 : w2.cell? ⟨w.heap.size + 1, 4, none⟩ = some (.int .i64 y1) := by rw [hX2.cell]; rfl
  obtain ⟨a, hrr⟩ : ∃ r', r' = (asS l rs s (x0, x1)) := ⟨_, rfl⟩
  rw [← hrr]
  have Ha := Lib.hid hrr
  clear hrr
  obtain ⟨oa, hrr⟩ : ∃ r', r' = (asOk l rs s (x0, x1)) := ⟨_, rfl⟩
  rw [← hrr]
  have Hoa := Lib.hid hrr
  clear hrr
  go_wp2_with fail
  refine (implApplyStep_any l A n c rs s y0 y1 _ (Hr.out.keep hW2) Hn.out hb Hz.out hs).mono ?_
  rintro e w3 ⟨rfl, b3⟩
  have hW3 := hW2.trans (b3.mono hW2.size)
  clear b3 hS2 hX2 hW2 s0 s1 k0 k3 k4
  obtain ⟨b, hrr⟩ : ∃ r', r' = (asS l rs s (y0, y1)) := ⟨_, rfl⟩
  rw [← hrr]
  have Hb := Lib.hid hrr
  clear hrr
  obtain ⟨ob, hrr⟩ : ∃ r', r' = (asOk l rs s (y0, y1)) := ⟨_, rfl⟩
  rw [← hrr]
  have Hob := Lib.hid hrr
  clear hrr
  have e0 : pairOk l rs s (x0, x1) (y0, y1) = (oa && ob) := by rw [pairOk, ← H1.out, ← Hoa.out, ← Hob.out]; rfl
  cases oa
  · have e1 : ∀ z, sideS l rs s (x0, x1) (y0, y1) z = ⟨#[]⟩ := fun z => by rw [sideS, e0]; rfl
    have E0 := Lib.hid e0
    clear e0
    have E1 := Lib.hid e1
    clear e1
    go_wp2_with fail
    refine bodyPost_ret (v := .tuple #[.string ⟨#[]⟩, .string ⟨#[]⟩, .bool false]) (by simp [results, Tryz.results71, go_sem]) rfl ?_
    exact ⟨by rw [E0.out, E1.out, E1.out]; rfl, hW3⟩
  cases ob
  · have e1 : ∀ z, sideS l rs s (x0, x1) (y0, y1) z = ⟨#[]⟩ := fun z => by rw [sideS, e0]; rfl
    have E0 := Lib.hid e0
    clear e0
    have E1 := Lib.hid e1
    clear e1
    go_wp2_with fail
    refine bodyPost_ret (v := .tuple #[.string ⟨#[]⟩, .string ⟨#[]⟩, .bool false]) (by simp [results, Tryz.results71, go_sem]) rfl ?_
    exact ⟨by rw [E0.out, E1.out, E1.out]; rfl, hW3⟩
  · have e1 : ∀ z, sideS l rs s (x0, x1) (y0, y1) z = asS l rs s z := fun z => by rw [sideS, e0]; rfl
    have E0 := Lib.hid e0
    clear e0
    have E1 := Lib.hid e1
    clear e1
    go_wp2_with fail
    refine bodyPost_ret (v := .tuple #[.string a, .string b, .bool true]) (by simp [results, Tryz.results71, go_sem]) rfl ?_
    exact ⟨by rw [E0.out, E1.out, E1.out, ← Ha.out, ← Hb.out]; rfl, hW3⟩

set_option maxRecDepth 100000 in
set_option maxHeartbeats 2000000 in
theorem implIsJoined_any (l : Int) (A : Option Addr) (n c : Nat) (rs : List RuleT) (s : ByteArray) (x0 x1 y0 y1 : Int) (w : World) (hr : Rd w A (cellsRule rs)) (hn : n = rs.length) (hb : n ≤ 1048576) (hz : ∀ x ∈ rs, x.1.size ≤ 1048576 ∧ x.2.size ≤ 1048576) (hs : s.size ≤ 1048576) :
    Calls Tryz.prog 48 #[.agg #[.int .i64 l, .slice A n c], .agg #[.string s, .int .i64 x0, .int .i64 x1, .int .i64 y0, .int .i64 y1]] w (Kept w (.bool (joined l rs s x0 x1 y0 y1))) := by
  have hW0 : Below w.heap.size w ((w.alloc (.cells #[.int .i64 l, .slice A n c] 25)).alloc (.cells #[.string s, .int .i64 x0, .int .i64 x1, .int .i64 y0, .int .i64 y1] 77)) := ((Below.refl _ _).alloc (Nat.le_refl _) _).alloc (by simp) _
  have hS0 : Bk ((w.alloc (.cells #[.int .i64 l, .slice A n c] 25)).alloc (.cells #[.string s, .int .i64 x0, .int .i64 x1, .int .i64 y0, .int .i64 y1] 77)) w.heap.size 25 #[.int .i64 l, .slice A n c] := (Bk.new w _ _).alloc _
  have Hr := Lib.hid hr
  clear hr
  have Hn := Lib.hid hn
  clear hn
  have Hz := Lib.hid hz
  clear hz
  go_enter Tryz.func48, Tryz.ntmps48
  go_wp2_with fail
  with_reducible refine (implSidesOf_any l A n c rs s x0 x1 y0 y1 _ (Hr.out.keep hW0) Hn.out hb Hz.out hs).mono ?_
  rintro e w1 ⟨rfl, b1⟩
  have hW1 := hW0.trans (b1.mono hW0.size)
  have hS1 := hS0.below b1 hS0.lt
  have s0_1 : w1.cell? ⟨w.heap.size, 0, none⟩ = some (.int .i64 l) := by rw [hS1.cell]; rfl
  have s1_1 : w1.cell? ⟨w.heap.size, 1, none⟩ = some (.slice A n c) := by rw [hS1.cell]; rfl
  have sl_1 := hS1.lt
  clear b1
  obtain ⟨ok, hok⟩ : ∃ q, q = pairOk l rs s (x0, x1) (y0, y1) := ⟨_, rfl⟩
  obtain ⟨a, ha⟩ : ∃ q, q = sideS l rs s (x0, x1) (y0, y1) (x0, x1) := ⟨_, rfl⟩
  obtain ⟨b, hbb⟩ : ∃ q, q = sideS l rs s (x0, x1) (y0, y1) (y0, y1) := ⟨_, rfl⟩
  rw [← hok, ← ha, ← hbb]
  cases ok
  · have e1 : joined l rs s x0 x1 y0 y1 = false := by rw [joined, ← hok]; rfl
    have Hok := Lib.hid hok
    clear hok
    have Ha := Lib.hid ha
    clear ha
    have Hbb := Lib.hid hbb
    clear hbb
    have E1 := Lib.hid e1
    clear e1
    go_wp2_with fail
    go_ret
    exact ⟨ret_bool (by rw [E1.out]), hW1⟩
  have ha2 : asS l rs s (x0, x1) = a := by rw [ha, sideS, ← hok]; rfl
  have hb2 : asS l rs s (y0, y1) = b := by rw [hbb, sideS, ← hok]; rfl
  have hoo := hok.symm
  rw [pairOk, Bool.and_eq_true, Bool.and_eq_true] at hoo
  have za : a.size ≤ 1048576 := by rw [← ha2]; exact asS_size hoo.1.2
  have zb : b.size ≤ 1048576 := by rw [← hb2]; exact asS_size hoo.2
  have e1 : joined l rs s x0 x1 y0 y1 = (takesOk l rs a && takesOk l rs b && ((nfS l rs a).toList == (nfS l rs b).toList)) := by rw [joined, ← hok, ha2, hb2]; rfl
  clear hoo
  have Hok := Lib.hid hok
  clear hok
  have Ha := Lib.hid ha
  clear ha
  have Hbb := Lib.hid hbb
  clear hbb
  have Ha2 := Lib.hid ha2
  clear ha2
  have Hb2 := Lib.hid hb2
  clear hb2
  have E1 := Lib.hid e1
  clear e1
  go_wp2_with fail
  with_reducible refine (implNormalForm_any l A n c rs a _ (Hr.out.keep hW1) Hn.out hb Hz.out za).mono ?_
  rintro e w2 ⟨rfl, b2⟩
  have hW2 := hW1.trans (b2.mono hW1.size)
  have hS2 := hS1.below b2 hS1.lt
  have s0_2 : w2.cell? ⟨w.heap.size, 0, none⟩ = some (.int .i64 l) := by rw [hS2.cell]; rfl
  have s1_2 : w2.cell? ⟨w.heap.size, 1, none⟩ = some (.slice A n c) := by rw [hS2.cell]; rfl
  have sl_2 := hS2.lt
  clear b2
  obtain ⟨u, hrr⟩ : ∃ r', r' = (nfS l rs a) := ⟨_, rfl⟩
  rw [← hrr]
  have Hu := Lib.hid hrr
  clear hrr
  obtain ⟨ou, hrr⟩ : ∃ r', r' = (takesOk l rs a) := ⟨_, rfl⟩
  rw [← hrr]
  have Hou := Lib.hid hrr
  clear hrr
  go_wp2_with fail
  with_reducible refine (implNormalForm_any l A n c rs b _ (Hr.out.keep hW2) Hn.out hb Hz.out zb).mono ?_
  rintro e w3 ⟨rfl, b3⟩
  have hW3 := hW2.trans (b3.mono hW2.size)
  have hS3 := hS2.below b3 hS2.lt
  have s0_3 : w3.cell? ⟨w.heap.size, 0, none⟩ = some (.int .i64 l) := by rw [hS3.cell]; rfl
  have s1_3 : w3.cell? ⟨w.heap.size, 1, none⟩ = some (.slice A n c) := by rw [hS3.cell]; rfl
  have sl_3 := hS3.lt
  clear b3
  obtain ⟨v, hrr⟩ : ∃ r', r' = (nfS l rs b) := ⟨_, rfl⟩
  rw [← hrr]
  have Hv := Lib.hid hrr
  clear hrr
  obtain ⟨ov, hrr⟩ : ∃ r', r' = (takesOk l rs b) := ⟨_, rfl⟩
  rw [← hrr]
  have Hov := Lib.hid hrr
  clear hrr
  have e2 : joined l rs s x0 x1 y0 y1 = (ou && ov && (u.toList == v.toList)) := by rw [E1.out, ← Hu.out, ← Hv.out, ← Hou.out, ← Hov.out]
  obtain ⟨q, hq⟩ : ∃ q, q = (u.toList == v.toList) := ⟨_, rfl⟩
  rw [← hq] at e2
  have hq2 := hq.symm
  clear hq
  cases ou
  · skip
    have E2 := Lib.hid e2
    clear e2
    cases ov <;>
    · go_wp2_with fail
      go_ret
      exact ⟨ret_bool (by rw [E2.out]; rfl), hW3⟩
  · cases ov
    · skip
      have E2 := Lib.hid e2
      clear e2
      go_wp2_with fail
      go_ret
      exact ⟨ret_bool (by rw [E2.out]; rfl), hW3⟩
    · skip
      have E2 := Lib.hid e2
      clear e2
      go_wp2_with fail
      go_ret
      exact ⟨ret_bool (by rw [E2.out]; first | rfl | simp [hq2]), hW3⟩

end Go.Proofs.YteafeecndghapaaGreat
