/- Walks over firstStep and lastStep of the program: the first and the last step of a word. -/
import Derived.Test.YteafeecndghapaaGreatMg9
import Derived.Deep.RegionHeld3
namespace Go.Proofs.YteafeecndghapaaGreat
open Go.RowKit Go.Shelf

/-- A step, or the zero step where there is none. -/
def stepV : Option StepT → Value
  | some x => .agg #[.int .i64 x.1, .int .i64 x.2]
  | none => .agg #[.int .i64 0, .int .i64 0]

theorem lastTo_some {rs : List RuleT} {s : ByteArray} {i j : Nat} (hj : j < rs.length) (hn : stepRow rs s i j = []) (h : hitAt rs s i j = true) : lastTo rs s (i + 1) = some ((j : Int), (i : Int)) := by rw [lastTo, stepRow_head_lt hj hn h]; rfl
theorem lastTo_next {rs : List RuleT} {s : ByteArray} {i : Nat} (h : stepRow rs s i rs.length = []) : lastTo rs s (i + 1) = lastTo rs s i := by rw [lastTo, h]; rfl

set_option maxRecDepth 100000 in
set_option maxHeartbeats 4000000 in
theorem implFirst_any (l : Int) (A : Option Addr) (n c : Nat) (rs : List RuleT) (s : ByteArray) (w : World) (hr : Rd w A (cellsRule rs)) (hn : n = rs.length) (hb : n ≤ 1048576) (hz : ∀ x ∈ rs, x.1.size ≤ 1048576 ∧ x.2.size ≤ 1048576) (hs : s.size ≤ 1048576) :
    Calls Tryz.prog 50 #[.agg #[.int .i64 l, .slice A n c], .string s] w (Kept w (.tuple #[stepV (firstS rs s), .bool (firstS rs s).isSome])) := by
  have hW0 : Below w.heap.size w ((w.alloc (.cells #[.int .i64 l, .slice A n c] 25)).alloc (.cells #[.int .i64 0, .int .i64 0] 56)) := ((Below.refl _ _).alloc (Nat.le_refl _) _).alloc (by simp) _
  have hS0 : Bk ((w.alloc (.cells #[.int .i64 l, .slice A n c] 25)).alloc (.cells #[.int .i64 0, .int .i64 0] 56)) w.heap.size 25 #[.int .i64 l, .slice A n c] := (Bk.new w _ _).alloc _
  have hR0 : Bk ((w.alloc (.cells #[.int .i64 l, .slice A n c] 25)).alloc (.cells #[.int .i64 0, .int .i64 0] 56)) (w.heap.size + 1) 56 #[.int .i64 0, .int .i64 0] := (Bk.new (w.alloc (.cells #[.int .i64 l, .slice A n c] 25)) 56 #[.int .i64 0, .int .i64 0]).cast (by simp)
  have Hr := Lib.hid hr
  clear hr
  have Hn := Lib.hid hn
  clear hn
  have Hz := Lib.hid hz
  clear hz
  go_enter Tryz.func50, Tryz.ntmps50
  go_wp2_with fail
  go_loopw [11] (fun i wr => ∃ (q : Nat), q ≤ s.size ∧ i = .int .i64 q ∧ Hid (stepAcc rs s q = []) ∧ Bk wr w.heap.size 25 #[.int .i64 l, .slice A n c] ∧ Bk wr (w.heap.size + 1) 56 #[.int .i64 0, .int .i64 0] ∧ Below w.heap.size w wr) (fun i _ => s.size - (intOf i).toNat)
  case atStart => exact ⟨0, Nat.zero_le _, rfl, stepAcc_zero _ _, hS0, hR0, hW0⟩
  case round =>
    clear hS0 hW0 hR0
    obtain ⟨i, hi, rfl, HA, hS0, hR0, hW0⟩ := hrel
    have s0_0 : wr.cell? ⟨w.heap.size, 0, none⟩ = some (.int .i64 l) := by rw [hS0.cell]; rfl
    have s1_0 : wr.cell? ⟨w.heap.size, 1, none⟩ = some (.slice A n c) := by rw [hS0.cell]; rfl
    have sl_0 := hS0.lt
    by_cases hlt : i < s.size
    · have hiS : i ≤ s.size := by omega
      go_wp2_with fail
      go_loopw [17] (fun k wr => ∃ (q : Nat), q ≤ n ∧ k = .int .i64 q ∧ Hid (stepRow rs s i q = []) ∧ Bk wr w.heap.size 25 #[.int .i64 l, .slice A n c] ∧ Bk wr (w.heap.size + 1) 56 #[.int .i64 0, .int .i64 0] ∧ Below w.heap.size w wr) (fun k _ => n - (intOf k).toNat)
      case atStart => exact ⟨0, Nat.zero_le _, rfl, stepRow_zero _ _ _, hS0, hR0, hW0⟩
      case round =>
        clear hS0 hR0 hW0 s0_0 s1_0 sl_0
        obtain ⟨k, hk, rfl, HB, hS0, hR0, hW0⟩ := hrel
        by_cases hltk : k < n
        · have hk2 : k < rs.length := by rw [← Hn.out]; exact hltk
          obtain ⟨b, o, rfl, hbl, p0, p1⟩ := rd_Rule (Hr.out.keep hW0) hk2
          obtain ⟨⟨v0, v1⟩, hv⟩ : ∃ v, v = rs[k] := ⟨_, rfl⟩
          have z0 : v0.size ≤ 1048576 := by have := (Hz.out rs[k] (List.getElem_mem hk2)).1; rw [← hv] at this; exact this
          rw [← hv] at p0 p1
          dsimp only at p0 p1
          have hA_ : ruleAt rs k = (v0, v1) := by rw [ruleAt_get hk2, hv]
          have hW1 := hW0.alloc hW0.size (.cells #[.string v0, .string v1] 68)
          have hS1 := hS0.alloc (.cells #[.string v0, .string v1] 68)
          have hR1 := hR0.alloc (.cells #[.string v0, .string v1] 68)
          have zx : (s.extract i s.size).size ≤ 1048576 := by simp; omega
          have hrl := hR0.lt
          have eC : ∀ W, Below (wr.alloc (.cells #[.string v0, .string v1] 68)).drew.heap.size (wr.alloc (.cells #[.string v0, .string v1] 68)).drew W → W.cell? ⟨wr.heap.size, 0, none⟩ = some (.string v0) := fun W hb => by
            have hX := Bk.new wr 68 #[.string v0, .string v1]
            rw [(hX.drew.below hb (by simp)).cell]; rfl
          have zC := eC _ (Below.refl _ _)
          obtain ⟨r, hrr⟩ : ∃ r', r' = hasAt s v0 (i) := ⟨_, rfl⟩
          have hpr : hasPre (s.extract i s.size) v0 = r := by rw [hasPre_at s v0 i (by omega)]; exact hrr.symm
          have hit : hitAt rs s (i) k = r := by rw [hitAt, hA_]; exact hrr.symm
          clear hrr
          have Hit := Lib.hid hit
          clear hit
          have Hpr := Lib.hid hpr
          clear hpr
          have EC := Lib.hid eC
          clear eC
          have ZC := Lib.hid zC
          clear zC
          have Hv := Lib.hid hv
          clear hv
          have HA_ := Lib.hid hA_
          clear hA_
          have HS0 := Lib.hid hS0
          clear hS0
          have HR0 := Lib.hid hR0
          clear hR0
          have HS1 := Lib.hid hS1
          clear hS1
          have HR1 := Lib.hid hR1
          clear hR1
          have HW0 := Lib.hid hW0
          clear hW0
          have HW1 := Lib.hid hW1
          clear hW1
          go_wp2_with fail
          go_region_held3 (fun W => W.cell? ⟨wr.heap.size, 0, none⟩ = some (.string v0)) (first | exact ZC.out | exact EC.out _ b2) (((with_reducible refine (hasPrefix_any (s.extract i s.size) v0 _ (by omega) (by omega)).mono ?_); rintro e w2 ⟨rfl, b2⟩; rw [Hpr.out]))
          have b3 : Below (wr.alloc (.cells #[.string v0, .string v1] 68)).heap.size (wr.alloc (.cells #[.string v0, .string v1] 68)) w2 := by first | exact b2 | exact ((Below.refl _ _).drew).trans b2
          have hW2 := HW1.out.trans (b3.mono HW1.out.size)
          have hS2 := HS1.out.below b3 HS1.out.lt
          have hR2 := HR1.out.below b3 HR1.out.lt
          clear b2 b3 EC ZC HS0 HR0 HS1 HR1 HW0 HW1
          cases r
          · go_wp2_with fail
            go_roundw
            case rel => exact ⟨k + 1, by omega, by go_num, by unfold Hid; rw [stepRow_no Hit.out]; exact HB.out, hS2, hR2, hW2⟩
            case measure => simp [intOf] <;> omega
          · have r0 : w2.cell? ⟨w.heap.size + 1, 0, none⟩ = some (.int .i64 0) := by rw [hR2.cell]; rfl
            have r1 : w2.cell? ⟨w.heap.size + 1, 1, none⟩ = some (.int .i64 0) := by rw [hR2.cell]; rfl
            have f0 := hR2.free 0
            have f1 := hR2.free 1
            have hfs : firstS rs s = some ((k : Int), ((i : Nat) : Int)) := firstS_some hlt hk2 HA.out HB.out Hit.out
            have Hfs := Lib.hid hfs
            clear hfs
            go_wp2_with fail
            have hBn := (hR2.put 0 (.int .i64 (k : Int))).put 1 (.int .i64 ((i : Nat) : Int))
            have q0 := hBn.cell 0
            have q1 := hBn.cell 1
            refine bodyPost_ret (v := .tuple #[.agg #[.int .i64 (k : Int), .int .i64 ((i : Nat) : Int)], .bool true]) (by simp [results, Tryz.results50, go_sem, q0, q1]) rfl ?_
            refine ⟨by rw [Hfs.out]; rfl, (hW2.setCell (by dsimp only; omega) _).setCell (by dsimp only; omega) _⟩
        · have : k = n := by omega
          subst this
          have hnx : stepAcc rs s (i + 1) = [] := stepAcc_next HA.out (by rw [← Hn.out]; exact HB.out)
          have Hnx := Lib.hid hnx
          clear hnx
          go_wp2_with fail
          go_roundw
          case rel => exact ⟨i + 1, by omega, by go_num, Hnx.out, hS0, hR0, hW0⟩
          case measure => simp [intOf] <;> omega
    · have : i = s.size := by omega
      subst this
      have hfs : firstS rs s = none := firstS_none HA.out
      have r0 : wr.cell? ⟨w.heap.size + 1, 0, none⟩ = some (.int .i64 0) := by rw [hR0.cell]; rfl
      have r1 : wr.cell? ⟨w.heap.size + 1, 1, none⟩ = some (.int .i64 0) := by rw [hR0.cell]; rfl
      have f0 := hR0.free 0
      have f1 := hR0.free 1
      have Hfs := Lib.hid hfs
      clear hfs
      go_wp2_with fail
      have hBn := (hR0.put 0 (.int .i64 0)).put 1 (.int .i64 0)
      have q0 := hBn.cell 0
      have q1 := hBn.cell 1
      have hrl := hR0.lt
      refine bodyPost_ret (v := .tuple #[.agg #[.int .i64 0, .int .i64 0], .bool false]) (by simp [results, Tryz.results50, go_sem, q0, q1]) rfl ?_
      refine ⟨by rw [Hfs.out]; rfl, (hW0.setCell (by dsimp only; omega) _).setCell (by dsimp only; omega) _⟩

set_option maxRecDepth 100000 in
set_option maxHeartbeats 4000000 in
theorem implLast_any (l : Int) (A : Option Addr) (n c : Nat) (rs : List RuleT) (s : ByteArray) (w : World) (hr : Rd w A (cellsRule rs)) (hn : n = rs.length) (hb : n ≤ 1048576) (hz : ∀ x ∈ rs, x.1.size ≤ 1048576 ∧ x.2.size ≤ 1048576) (hs : s.size ≤ 1048576) :
    Calls Tryz.prog 26 #[.agg #[.int .i64 l, .slice A n c], .string s] w (Kept w (.tuple #[stepV (lastS rs s), .bool (lastS rs s).isSome])) := by
  have hW0 : Below w.heap.size w ((w.alloc (.cells #[.int .i64 l, .slice A n c] 25)).alloc (.cells #[.int .i64 0, .int .i64 0] 56)) := ((Below.refl _ _).alloc (Nat.le_refl _) _).alloc (by simp) _
  have hS0 : Bk ((w.alloc (.cells #[.int .i64 l, .slice A n c] 25)).alloc (.cells #[.int .i64 0, .int .i64 0] 56)) w.heap.size 25 #[.int .i64 l, .slice A n c] := (Bk.new w _ _).alloc _
  have hR0 : Bk ((w.alloc (.cells #[.int .i64 l, .slice A n c] 25)).alloc (.cells #[.int .i64 0, .int .i64 0] 56)) (w.heap.size + 1) 56 #[.int .i64 0, .int .i64 0] := (Bk.new (w.alloc (.cells #[.int .i64 l, .slice A n c] 25)) 56 #[.int .i64 0, .int .i64 0]).cast (by simp)
  have Hr := Lib.hid hr
  clear hr
  have Hn := Lib.hid hn
  clear hn
  have Hz := Lib.hid hz
  clear hz
  go_enter Tryz.func26, Tryz.ntmps26
  go_wp2_with fail
  go_loopw [6] (fun i wr => ∃ (q : Nat), q ≤ s.size ∧ i = .int .i64 ((q : Int) - 1) ∧ Hid (lastTo rs s s.size = lastTo rs s q) ∧ Bk wr w.heap.size 25 #[.int .i64 l, .slice A n c] ∧ Bk wr (w.heap.size + 1) 56 #[.int .i64 0, .int .i64 0] ∧ Below w.heap.size w wr) (fun i _ => (intOf i + 1).toNat)
  case atStart => exact ⟨s.size, Nat.le_refl _, rfl, rfl, hS0, hR0, hW0⟩
  case round =>
    clear hS0 hW0 hR0
    obtain ⟨q, hi, rfl, HA, hS0, hR0, hW0⟩ := hrel
    have s0_0 : wr.cell? ⟨w.heap.size, 0, none⟩ = some (.int .i64 l) := by rw [hS0.cell]; rfl
    have s1_0 : wr.cell? ⟨w.heap.size, 1, none⟩ = some (.slice A n c) := by rw [hS0.cell]; rfl
    have sl_0 := hS0.lt
    by_cases hlt : 1 ≤ q
    · obtain ⟨i, rfl⟩ : ∃ i, q = i + 1 := ⟨q - 1, by omega⟩
      have ei : (((i + 1 : Nat) : Int) - 1) = (i : Int) := by omega
      rw [ei]
      have hiS : i ≤ s.size := by omega
      go_wp2_with fail
      go_loopw [19] (fun k wr => ∃ (q : Nat), q ≤ n ∧ k = .int .i64 q ∧ Hid (stepRow rs s i q = []) ∧ Bk wr w.heap.size 25 #[.int .i64 l, .slice A n c] ∧ Bk wr (w.heap.size + 1) 56 #[.int .i64 0, .int .i64 0] ∧ Below w.heap.size w wr) (fun k _ => n - (intOf k).toNat)
      case atStart => exact ⟨0, Nat.zero_le _, rfl, stepRow_zero _ _ _, hS0, hR0, hW0⟩
      case round =>
        clear hS0 hR0 hW0 s0_0 s1_0 sl_0
        obtain ⟨k, hk, rfl, HB, hS0, hR0, hW0⟩ := hrel
        by_cases hltk : k < n
        · have hk2 : k < rs.length := by rw [← Hn.out]; exact hltk
          obtain ⟨b, o, rfl, hbl, p0, p1⟩ := rd_Rule (Hr.out.keep hW0) hk2
          obtain ⟨⟨v0, v1⟩, hv⟩ : ∃ v, v = rs[k] := ⟨_, rfl⟩
          have z0 : v0.size ≤ 1048576 := by have := (Hz.out rs[k] (List.getElem_mem hk2)).1; rw [← hv] at this; exact this
          rw [← hv] at p0 p1
          dsimp only at p0 p1
          have hA_ : ruleAt rs k = (v0, v1) := by rw [ruleAt_get hk2, hv]
          have hW1 := hW0.alloc hW0.size (.cells #[.string v0, .string v1] 68)
          have hS1 := hS0.alloc (.cells #[.string v0, .string v1] 68)
          have hR1 := hR0.alloc (.cells #[.string v0, .string v1] 68)
          have zx : (s.extract i s.size).size ≤ 1048576 := by simp; omega
          have hrl := hR0.lt
          have eC : ∀ W, Below (wr.alloc (.cells #[.string v0, .string v1] 68)).drew.heap.size (wr.alloc (.cells #[.string v0, .string v1] 68)).drew W → W.cell? ⟨wr.heap.size, 0, none⟩ = some (.string v0) := fun W hb => by
            have hX := Bk.new wr 68 #[.string v0, .string v1]
            rw [(hX.drew.below hb (by simp)).cell]; rfl
          have zC := eC _ (Below.refl _ _)
          obtain ⟨r, hrr⟩ : ∃ r', r' = hasAt s v0 (i) := ⟨_, rfl⟩
          have hpr : hasPre (s.extract i s.size) v0 = r := by rw [hasPre_at s v0 i (by omega)]; exact hrr.symm
          have hit : hitAt rs s (i) k = r := by rw [hitAt, hA_]; exact hrr.symm
          clear hrr
          have Hit := Lib.hid hit
          clear hit
          have Hpr := Lib.hid hpr
          clear hpr
          have EC := Lib.hid eC
          clear eC
          have ZC := Lib.hid zC
          clear zC
          have Hv := Lib.hid hv
          clear hv
          have HA_ := Lib.hid hA_
          clear hA_
          have HS0 := Lib.hid hS0
          clear hS0
          have HR0 := Lib.hid hR0
          clear hR0
          have HS1 := Lib.hid hS1
          clear hS1
          have HR1 := Lib.hid hR1
          clear hR1
          have HW0 := Lib.hid hW0
          clear hW0
          have HW1 := Lib.hid hW1
          clear hW1
          go_wp2_with fail
          go_region_held3 (fun W => W.cell? ⟨wr.heap.size, 0, none⟩ = some (.string v0)) (first | exact ZC.out | exact EC.out _ b2) (((with_reducible refine (hasPrefix_any (s.extract i s.size) v0 _ (by omega) (by omega)).mono ?_); rintro e w2 ⟨rfl, b2⟩; rw [Hpr.out]))
          have b3 : Below (wr.alloc (.cells #[.string v0, .string v1] 68)).heap.size (wr.alloc (.cells #[.string v0, .string v1] 68)) w2 := by first | exact b2 | exact ((Below.refl _ _).drew).trans b2
          have hW2 := HW1.out.trans (b3.mono HW1.out.size)
          have hS2 := HS1.out.below b3 HS1.out.lt
          have hR2 := HR1.out.below b3 HR1.out.lt
          clear b2 b3 EC ZC HS0 HR0 HS1 HR1 HW0 HW1
          cases r
          · go_wp2_with fail
            go_roundw
            case rel => exact ⟨k + 1, by omega, by go_num, by unfold Hid; rw [stepRow_no Hit.out]; exact HB.out, hS2, hR2, hW2⟩
            case measure => simp [intOf] <;> omega
          · have r0 : w2.cell? ⟨w.heap.size + 1, 0, none⟩ = some (.int .i64 0) := by rw [hR2.cell]; rfl
            have r1 : w2.cell? ⟨w.heap.size + 1, 1, none⟩ = some (.int .i64 0) := by rw [hR2.cell]; rfl
            have f0 := hR2.free 0
            have f1 := hR2.free 1
            have hfs : lastS rs s = some ((k : Int), ((i : Nat) : Int)) := by rw [lastS, HA.out]; exact lastTo_some hk2 HB.out Hit.out
            have Hfs := Lib.hid hfs
            clear hfs
            go_wp2_with fail
            have hBn := (hR2.put 0 (.int .i64 (k : Int))).put 1 (.int .i64 ((i : Nat) : Int))
            have q0 := hBn.cell 0
            have q1 := hBn.cell 1
            refine bodyPost_ret (v := .tuple #[.agg #[.int .i64 (k : Int), .int .i64 ((i : Nat) : Int)], .bool true]) (by simp [results, Tryz.results26, go_sem, q0, q1]) rfl ?_
            refine ⟨by rw [Hfs.out]; rfl, (hW2.setCell (by dsimp only; omega) _).setCell (by dsimp only; omega) _⟩
        · have : k = n := by omega
          subst this
          have hnx : lastTo rs s s.size = lastTo rs s i := by rw [HA.out]; exact lastTo_next (by rw [← Hn.out]; exact HB.out)
          have Hnx := Lib.hid hnx
          clear hnx
          go_wp2_with fail
          go_roundw
          case rel => exact ⟨i, by omega, by go_num, Hnx.out, hS0, hR0, hW0⟩
          case measure => simp [intOf] <;> omega
    · have : q = 0 := by omega
      subst this
      have hfs : lastS rs s = none := HA.out
      have r0 : wr.cell? ⟨w.heap.size + 1, 0, none⟩ = some (.int .i64 0) := by rw [hR0.cell]; rfl
      have r1 : wr.cell? ⟨w.heap.size + 1, 1, none⟩ = some (.int .i64 0) := by rw [hR0.cell]; rfl
      have f0 := hR0.free 0
      have f1 := hR0.free 1
      have Hfs := Lib.hid hfs
      clear hfs
      go_wp2_with fail
      have hBn := (hR0.put 0 (.int .i64 0)).put 1 (.int .i64 0)
      have q0 := hBn.cell 0
      have q1 := hBn.cell 1
      have hrl := hR0.lt
      refine bodyPost_ret (v := .tuple #[.agg #[.int .i64 0, .int .i64 0], .bool false]) (by simp [results, Tryz.results26, go_sem, q0, q1]) rfl ?_
      refine ⟨by rw [Hfs.out]; rfl, (hW0.setCell (by dsimp only; omega) _).setCell (by dsimp only; omega) _⟩

end Go.Proofs.YteafeecndghapaaGreat
