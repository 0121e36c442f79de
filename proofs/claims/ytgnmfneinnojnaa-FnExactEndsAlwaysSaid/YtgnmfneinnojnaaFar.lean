/- Walks over LastStep of the reference, and FarForm (the program's and the reference's). -/
import Derived.Test.YtgnmfneinnojnaaNorm
namespace Go.Proofs.Ytgnmfneinnojnaa
open Go.RowKit Go.Shelf

def bestStep (b : Option StepT) (x : StepT) : Option StepT := match b with
  | none => some x
  | some y => if y.2 < x.2 then some x else some y
/-- The first of the steps with the greatest place. -/
def bestF (xs : List StepT) : Option StepT := xs.foldl bestStep none
theorem bestF_snoc (xs : List StepT) (x : StepT) : bestF (xs ++ [x]) = bestStep (bestF xs) x := by unfold bestF; rw [List.foldl_append]; rfl
theorem fold_row {p : Int} (xs : List StepT) (h : ∀ x ∈ xs, x.2 = p) (y : StepT) (hy : y.2 = p) : xs.foldl bestStep (some y) = some y := by
  induction xs with
  | nil => rfl
  | cons x xs ih =>
    have hx := h x List.mem_cons_self
    rw [List.foldl_cons, bestStep, if_neg (by omega)]
    exact ih (fun z hz => h z (List.mem_cons_of_mem x hz))
theorem fold_later {p : Int} (xs : List StepT) (h : ∀ x ∈ xs, x.2 = p) (b : Option StepT) (hb : ∀ y, b = some y → y.2 < p) : xs.foldl bestStep b = xs.head?.or b := by
  cases xs with
  | nil => rfl
  | cons x xs =>
    have hx := h x List.mem_cons_self
    have hs : bestStep b x = some x := by
      cases b with
      | none => rfl
      | some y => have := hb y rfl; rw [bestStep, if_pos (by omega)]
    rw [List.foldl_cons, hs]
    exact fold_row xs (fun z hz => h z (List.mem_cons_of_mem x hz)) x hx
theorem row_place {rs : List RuleT} {s : ByteArray} {i j : Nat} : ∀ x ∈ stepRow rs s i j, x.2 = (i : Int) := fun x hx => by
  unfold stepRow at hx
  simp only [List.mem_map] at hx
  obtain ⟨k, -, rfl⟩ := hx
  rfl
theorem bestF_acc (rs : List RuleT) (s : ByteArray) (i : Nat) : bestF (stepAcc rs s i) = lastTo rs s i := by
  induction i with
  | zero => rfl
  | succ i ih =>
    rw [stepAcc_succ, stepTo, bestF, List.foldl_append, lastTo]
    have e : (stepAcc rs s i).foldl bestStep none = lastTo rs s i := ih
    rw [e]
    refine fold_later _ row_place _ (fun y hy => ?_)
    obtain ⟨k, p, rfl, -, hp, -⟩ := mem_step (lastTo_mem hy)
    dsimp only
    omega

set_option maxRecDepth 100000 in
set_option maxHeartbeats 2000000 in
theorem specLast_any (l : Int) (A : Option Addr) (n c : Nat) (rs : List RuleT) (s : ByteArray) (w : World) (hr : Rd w A (cellsRule rs)) (hn : n = rs.length) (hb : n ≤ 1048576) (hz : ∀ x ∈ rs, x.1.size ≤ 1048576 ∧ x.2.size ≤ 1048576) (hs : s.size ≤ 1048576) (hro : rulesOk l rs = true) :
    Calls Try.prog 174 #[.agg #[.int .i64 l, .slice A n c], .string s] w (Kept w (.tuple #[stepV (lastS rs s), .bool (lastS rs s).isSome])) := by
  have hWa : Below w.heap.size w ((w.alloc (.cells #[.int .i64 l, .slice A n c] 49)).alloc (.cells #[.int .i64 0, .int .i64 0] 78)) := ((Below.refl _ _).alloc (Nat.le_refl _) _).alloc (by simp) _
  have hRa : Bk ((w.alloc (.cells #[.int .i64 l, .slice A n c] 49)).alloc (.cells #[.int .i64 0, .int .i64 0] 78)) (w.heap.size + 1) 78 #[.int .i64 0, .int .i64 0] := (Bk.new (w.alloc (.cells #[.int .i64 l, .slice A n c] 49)) 78 #[.int .i64 0, .int .i64 0]).cast (by simp)
  have hW0 := hWa.alloc hWa.size (.cells #[.int .i64 0, .int .i64 0] 78)
  have hR0 := hRa.alloc (.cells #[.int .i64 0, .int .i64 0] 78)
  have hB0 := (Bk.new ((w.alloc (.cells #[.int .i64 l, .slice A n c] 49)).alloc (.cells #[.int .i64 0, .int .i64 0] 78)) 78 #[.int .i64 0, .int .i64 0]).cast (g' := w.heap.size + 1 + 1) (by simp)
  have hE : stepsOf l rs s = stepAcc rs s s.size := by rw [stepsOf, hro]; rfl
  clear hWa hRa
  have Hr := Lib.hid hr
  clear hr
  have Hn := Lib.hid hn
  clear hn
  have Hz := Lib.hid hz
  clear hz
  have Hro := Lib.hid hro
  clear hro
  have HE := Lib.hid hE
  clear hE
  go_enter Try.func174, Try.ntmps174
  go_wp2_with fail
  refine (specSteps_any l A n c rs s _ (Hr.out.keep hW0) Hn.out hb Hz.out hs).mono ?_
  rintro e w1 ⟨C, d, rfl, hO1, b1⟩
  have hW1 := hW0.trans (b1.mono hW0.size)
  have hR1 := hR0.below b1 hR0.lt
  have hB1 := hB0.below b1 hB0.lt
  have hlen := steps_len (l := l) (rs := rs) hs
  rw [HE.out] at hO1 hlen ⊢
  obtain ⟨L, hL⟩ : ∃ L, L = stepAcc rs s s.size := ⟨_, rfl⟩
  rw [← hL] at hO1 hlen ⊢
  obtain ⟨m, hm⟩ : ∃ m, m = L.length := ⟨_, rfl⟩
  rw [← hm] at hO1 hlen ⊢
  have hrd := own_mono (b' := w.heap.size + 1 + 1 + 1) hO1 (by simp)
  have hmx : m ≤ maxLen := by unfold maxLen; omega
  clear hO1 hR0 hW0 hB0 b1
  have HL := Lib.hid hL
  clear hL
  have Hm := Lib.hid hm
  clear hm
  have Hrd := Lib.hid hrd
  clear hrd
  have HW1 := Lib.hid hW1
  clear hW1
  have HR1 := Lib.hid hR1
  clear hR1
  have HB1 := Lib.hid hB1
  clear hB1
  go_wp2_with fail
  go_loopw [7, 15] (fun v i wr => ∃ (q : Nat), q ≤ m ∧ i = .int .i64 q ∧ v = .bool (bestF (L.take q)).isSome ∧ Bk wr (w.heap.size + 1) 78 #[.int .i64 0, .int .i64 0] ∧ Bk wr (w.heap.size + 1 + 1) 78 #[.int .i64 (stepX (bestF (L.take q))), .int .i64 (stepY (bestF (L.take q)))] ∧ wr.ownsRow (w.heap.size + 1 + 1 + 1) 78 2 (.slice C m d) m (cellsStep L) ∧ Below w.heap.size w wr) (fun _ i _ => m - (intOf i).toNat)
  case atStart => exact ⟨0, Nat.zero_le _, rfl, rfl, HR1.out, HB1.out, Hrd.out, HW1.out⟩
  case round =>
    clear HR1 HB1 Hrd HW1
    obtain ⟨j, hj, rfl, rfl, hR0, hB0, hrd, hW0⟩ := hrel
    obtain ⟨b, hbe⟩ : ∃ b, b = bestF (L.take j) := ⟨_, rfl⟩
    rw [← hbe] at hB0 ⊢
    by_cases hlt : j < m
    · have hlt2 : j < L.length := by rw [← Hm.out]; exact hlt
      obtain ⟨a0, o, rfl, hbl, p0, p1⟩ := rd_Step (Rd.of_own hrd) hlt2
      obtain ⟨⟨y0, y1⟩, hy⟩ : ∃ y, y = L[j] := ⟨_, rfl⟩
      rw [← hy] at p0 p1
      dsimp only at p0 p1
      have hnx : bestF (L.take (j + 1)) = bestStep b (y0, y1) := by rw [List.take_succ_eq_append_getElem hlt2, bestF_snoc, ← hbe, ← hy]
      have e0 : wr.cell? ⟨w.heap.size + 1 + 1, 0, none⟩ = some (.int .i64 (stepX b)) := by rw [hB0.cell]; rfl
      have e1 : wr.cell? ⟨w.heap.size + 1 + 1, 1, none⟩ = some (.int .i64 (stepY b)) := by rw [hB0.cell]; rfl
      have f0 := hB0.free 0
      have f1 := hB0.free 1
      have el := hB0.lt
      have rl := hR0.lt
      have wl := hW0.size
      cases b with
      | none =>
        have hq : bestF (L.take (j + 1)) = some (y0, y1) := hnx
        have Hbe := Lib.hid hbe
        clear hbe
        have Hy := Lib.hid hy
        clear hy
        have Hnx := Lib.hid hnx
        clear hnx
        have Hq := Lib.hid hq
        clear hq
        have HR0 := Lib.hid hR0
        clear hR0
        have HB0 := Lib.hid hB0
        clear hB0
        have Hrd := Lib.hid hrd
        clear hrd
        rw [Option.isSome_none]
        go_wp2_with fail
        go_roundw
        case rel =>
          refine ⟨j + 1, by omega, by go_num, by rw [Hq.out]; rfl, ?_, ?_, ?_, ?_⟩
          · exact ((HR0.out.far (p := ⟨w.heap.size + 1 + 1, 0, none⟩) (by dsimp only; omega) _).far (p := ⟨w.heap.size + 1 + 1, 1, none⟩) (by dsimp only; omega) _).alloc _
          · rw [Hq.out]; exact ((HB0.out.put 0 (.int .i64 y0)).put 1 (.int .i64 y1)).alloc _
          · exact own_keep (ownsRow_setCell_below (ownsRow_setCell_below Hrd.out (a := ⟨w.heap.size + 1 + 1, 0, none⟩) (by dsimp only; omega) _) (a := ⟨w.heap.size + 1 + 1, 1, none⟩) (by dsimp only; omega) _) ((Below.refl _ _).alloc (Nat.le_refl _) _) (Nat.le_refl _)
          · exact ((hW0.setCell (p := ⟨w.heap.size + 1 + 1, 0, none⟩) (by dsimp only; omega) _).setCell (p := ⟨w.heap.size + 1 + 1, 1, none⟩) (by dsimp only; omega) _).alloc (by simp; omega) _
        case measure => simp [intOf] <;> omega
      | some z =>
        obtain ⟨z0, z1⟩ := z
        have e2 : stepY (some (z0, z1)) = z1 := rfl
        have e3 : stepX (some (z0, z1)) = z0 := rfl
        rw [e2] at e1
        rw [e3] at e0
        rw [Option.isSome_some]
        by_cases hgt : z1 < y1
        · have hq : bestF (L.take (j + 1)) = some (y0, y1) := by rw [hnx, bestStep, if_pos hgt]
          have Hbe := Lib.hid hbe
          clear hbe
          have Hy := Lib.hid hy
          clear hy
          have Hnx := Lib.hid hnx
          clear hnx
          have Hq := Lib.hid hq
          clear hq
          have HR0 := Lib.hid hR0
          clear hR0
          have HB0 := Lib.hid hB0
          clear hB0
          have Hrd := Lib.hid hrd
          clear hrd
          have E2 := Lib.hid e2
          clear e2
          have E3 := Lib.hid e3
          clear e3
          go_wp2_with fail
          go_roundw
          case rel =>
            refine ⟨j + 1, by omega, by go_num, by rw [Hq.out]; rfl, ?_, ?_, ?_, ?_⟩
            · exact ((HR0.out.far (p := ⟨w.heap.size + 1 + 1, 0, none⟩) (by dsimp only; omega) _).far (p := ⟨w.heap.size + 1 + 1, 1, none⟩) (by dsimp only; omega) _).alloc _
            · rw [Hq.out]; exact ((HB0.out.put 0 (.int .i64 y0)).put 1 (.int .i64 y1)).alloc _
            · exact own_keep (ownsRow_setCell_below (ownsRow_setCell_below Hrd.out (a := ⟨w.heap.size + 1 + 1, 0, none⟩) (by dsimp only; omega) _) (a := ⟨w.heap.size + 1 + 1, 1, none⟩) (by dsimp only; omega) _) ((Below.refl _ _).alloc (Nat.le_refl _) _) (Nat.le_refl _)
            · exact ((hW0.setCell (p := ⟨w.heap.size + 1 + 1, 0, none⟩) (by dsimp only; omega) _).setCell (p := ⟨w.heap.size + 1 + 1, 1, none⟩) (by dsimp only; omega) _).alloc (by simp; omega) _
          case measure => simp [intOf] <;> omega
        · have hq : bestF (L.take (j + 1)) = some (z0, z1) := by rw [hnx, bestStep, if_neg hgt]
          have Hbe := Lib.hid hbe
          clear hbe
          have Hy := Lib.hid hy
          clear hy
          have Hnx := Lib.hid hnx
          clear hnx
          have Hq := Lib.hid hq
          clear hq
          have HR0 := Lib.hid hR0
          clear hR0
          have HB0 := Lib.hid hB0
          clear hB0
          have Hrd := Lib.hid hrd
          clear hrd
          have E2 := Lib.hid e2
          clear e2
          have E3 := Lib.hid e3
          clear e3
          go_wp2_with fail
          go_roundw
          case rel =>
            refine ⟨j + 1, by omega, by go_num, by rw [Hq.out]; rfl, HR0.out.alloc _, ?_, own_keep Hrd.out ((Below.refl _ _).alloc (Nat.le_refl _) _) (Nat.le_refl _), hW0.alloc hW0.size _⟩
            rw [Hq.out]; exact HB0.out.alloc _
          case measure => simp [intOf] <;> omega
    · have : j = m := by omega
      subst this
      have hF : lastS rs s = b := by rw [hbe, List.take_of_length_le (by rw [← Hm.out]; omega), HL.out, bestF_acc]; rfl
      have hV := stepV_eq (lastS rs s)
      rw [hF] at hV
      have e0 : wr.cell? ⟨w.heap.size + 1 + 1, 0, none⟩ = some (.int .i64 (stepX b)) := by rw [hB0.cell]; rfl
      have e1 : wr.cell? ⟨w.heap.size + 1 + 1, 1, none⟩ = some (.int .i64 (stepY b)) := by rw [hB0.cell]; rfl
      have r0 : wr.cell? ⟨w.heap.size + 1, 0, none⟩ = some (.int .i64 0) := by rw [hR0.cell]; rfl
      have r1 : wr.cell? ⟨w.heap.size + 1, 1, none⟩ = some (.int .i64 0) := by rw [hR0.cell]; rfl
      have f0 := hR0.free 0
      have f1 := hR0.free 1
      have el := hB0.lt
      obtain ⟨g0, hg0⟩ : ∃ g0, g0 = stepX b := ⟨_, rfl⟩
      obtain ⟨g1, hg1⟩ : ∃ g1, g1 = stepY b := ⟨_, rfl⟩
      obtain ⟨g2, hg2⟩ : ∃ g2, g2 = b.isSome := ⟨_, rfl⟩
      rw [← hg0] at e0 hV
      rw [← hg1] at e1 hV
      rw [← hg2]
      have Hbe := Lib.hid hbe
      clear hbe
      have HF := Lib.hid hF
      clear hF
      have HV := Lib.hid hV
      clear hV
      have HB0 := Lib.hid hB0
      clear hB0
      have Hrd := Lib.hid hrd
      clear hrd
      have Hg0 := Lib.hid hg0
      clear hg0
      have Hg1 := Lib.hid hg1
      clear hg1
      have Hg2 := Lib.hid hg2
      clear hg2
      go_wp2_with fail
      have hBn := (hR0.put 0 (.int .i64 g0)).put 1 (.int .i64 g1)
      have q0 := hBn.cell 0
      have q1 := hBn.cell 1
      refine bodyPost_ret (v := .tuple #[.agg #[.int .i64 g0, .int .i64 g1], .bool g2]) (by simp [results, Try.results174, go_sem, q0, q1]) rfl ?_
      exact ⟨by rw [HF.out, HV.out, ← Hg2.out], (hW0.setCell (by dsimp only; omega) _).setCell (by dsimp only; omega) _⟩



end Go.Proofs.Ytgnmfneinnojnaa
