/- Walks over LastStep of the reference, and FarForm (the program's and the reference's). -/
import Derived.Test.YtcpkplgfgpmomaaNorm
namespace Go.Proofs.Ytcpkplgfgpmomaa
open Go.RowKit Go.Shelf

def bestStep (b : Option StepT) (x : StepT) : Option StepT := match b with
  | none => some x
  | some y => if y.2 < x.2 then some x else some y
/-- The first of the steps with the greatest place. -/
def bestF (xs : List StepT) : Option StepT := xs.foldl bestStep none
theorem bestF_snoc (xs : List StepT) (x : StepT) : bestF (xs ++ [x]) = bestStep (bestF xs) x := by unfold bestF; rw [List.foldl_append]; rfl
theorem fold_row {p : Int} (xs : List StepT) (h : ∀ x ∈ xs, x.2 = p) (y : StepT) (hy : y.2 = p) : xs.foldl bestStep (some y) = some y := by
  induction xs with
  | nil => rfl
  | cons x xs ih =>
    have hx := h x List.mem_cons_self
    rw [List.foldl_cons, bestStep, if_neg (by omega)]
    exact ih (fun z hz => h z (List.mem_cons_of_mem x hz))
theorem fold_later {p : Int} (xs : List StepT) (h : ∀ x ∈ xs, x.2 = p) (b : Option StepT) (hb : ∀ y, b = some y → y.2 < p) : xs.foldl bestStep b = xs.head?.or b := by
  cases xs with
  | nil => rfl
  | cons x xs =>
    have hx := h x List.mem_cons_self
    have hs : bestStep b x = some x := by
      cases b with
      | none => rfl
      | some y => have := hb y rfl; rw [bestStep, if_pos (by omega)]
    rw [List.foldl_cons, hs]
    exact fold_row xs (fun z hz => h z (List.mem_cons_of_mem x hz)) x hx
theorem row_place {rs : List RuleT} {s : ByteArray} {i j : Nat} : ∀ x ∈ stepRow rs s i j, x.2 = (i : Int) := fun x hx => by
  unfold stepRow at hx
  simp only [List.mem_map] at hx
  obtain ⟨k, -, rfl⟩ := hx
  rfl
theorem bestF_acc (rs : List RuleT) (s : ByteArray) (i : Nat) : bestF (stepAcc rs s i) = lastTo rs s i := by
  induction i with
  | zero => rfl
  | succ i ih =>
    rw [stepAcc_succ, stepTo, bestF, List.foldl_append, lastTo]
    have e : (stepAcc rs s i).foldl bestStep none = lastTo rs s i := ih
    rw [e]
    refine fold_later _ row_place _ (fun y hy => ?_)
    obtain ⟨k, p, rfl, -, hp, -⟩ := mem_step (lastTo_mem hy)
    dsimp only
    omega

set_option maxRecDepth 100000 in
set_option maxHeartbeats 2000000 in
theorem specLast_any (l : Int) (A : Option Addr) (n c : Nat) (rs : List RuleT) (s : ByteArray) (w : World) (hr : Rd w A (cellsRule rs)) (hn : n = rs.length) (hb : n ≤ 1048576) (hz : ∀ x ∈ rs, x.1.size ≤ 1048576 ∧ x.2.size ≤ 1048576) (hs : s.size ≤ 1048576) (hro : rulesOk l rs = true) :
    Calls Try.prog 63 #[.agg #[.int .i64 l, .slice A n c], .string s] w (Kept w (.tuple #[stepV (lastS rs s), .bool (lastS rs s).isSome])) := by
  have hWa : Below w.heap.size w ((w.alloc (.cells #[.int .i64 l, .slice A n c] 31)).alloc (.cells #[.int .i64 0, .int .i64 0] 68)) := ((Below.refl _ _).alloc (Nat.le_refl _) _).alloc (by simp) _
  have hRa : Bk ((w.alloc (.cells #[.int .i64 l, .slice A n c] 31)).alloc (.cells #[.int .i64 0, .int .i64 0] 68)) (w.heap.size + 1) 68 #[.int .i64 0, .int .i64 0] := (Bk.new (w.alloc (.cells #[.int .i64 l, .slice A n c] 31)) 68 #[.int .i64 0, .int .i64 0]).cast (by simp)
  have hW0 := hWa.alloc hWa.size (.cells #[.int .i64 0, .int .i64 0] 68)
  have hR0 := hRa.alloc (.cells #[.int .i64 0, .int .i64 0] 68)
  have hB0 := (Bk.new ((w.alloc (.cells #[.int .i64 l, .slice A n c] 31)).alloc (.cells #[.int .i64 0, .int .i64 0] 68)) 68 #[.int .i64 0, .int .i64 0]).cast (g' := w.heap.size + 1 + 1) (by simp)
  have hE : stepsOf l rs s = stepAcc rs s s.size := by rw [stepsOf, hro]; rfl
  clear hWa hRa
  have Hr := Lib.hid hr
  clear hr
  have Hn := Lib.hid hn
  clear hn
  have Hz := Lib.hid hz
  clear hz
  have Hro := Lib.hid hro
  clear hro
  have HE := Lib.hid hE
  clear hE
  go_enter Try.func63, Try.ntmps63
  go_wp2_with fail
  refine (specSteps_any l A n c rs s _ (Hr.out.keep hW0) Hn.out hb Hz.out hs).mono ?_
  rintro e w1 ⟨C, d, rfl, hO1, b1⟩
  have hW1 := hW0.trans (b1.mono hW0.size)
  have hR1 := hR0.below b1 hR0.lt
  have hB1 := hB0.below b1 hB0.lt
  have hlen := steps_len (l := l) (rs := rs) hs
  rw [HE.out] at hO1 hlen ⊢
  obtain ⟨L, hL⟩ : ∃ L, L = stepAcc rs s s.size := ⟨_, rfl⟩
  rw [← hL] at hO1 hlen ⊢
  obtain ⟨m, hm⟩ : ∃ m, m = L.length := ⟨_, rfl⟩
  rw [← hm] at hO1 hlen ⊢
  have hrd := own_mono (b' := w.heap.size + 1 + 1 + 1) hO1 (by simp)
  have hmx : m ≤ maxLen := by unfold maxLen; omega
  clear hO1 hR0 hW0 hB0 b1
  have HL := Lib.hid hL
  clear hL
  have Hm := Lib.hid hm
  clear hm
  have Hrd := Lib.hid hrd
  clear hrd
  have HW1 := Lib.hid hW1
  clear hW1
  have HR1 := Lib.hid hR1
  clear hR1
  have HB1 := Lib.hid hB1
  clear hB1
  go_wp2_with fail
  go_loopw [7, 15] (fun v i wr => ∃ (q : Nat), q ≤ m ∧ i = .int .i64 q ∧ v = .bool (bestF (L.take q)).isSome ∧ Bk wr (w.heap.size + 1) 68 #[.int .i64 0, .int .i64 0] ∧ Bk wr (w.heap.size + 1 + 1) 68 #[.int .i64 (stepX (bestF (L.take q))), .int .i64 (stepY (bestF (L.take q)))] ∧ wr.ownsRow (w.heap.size + 1 + 1 + 1) 68 2 (.slice C m d) m (cellsStep L) ∧ Below w.heap.size w wr) (fun _ i _ => m - (intOf i).toNat)
  case atStart => exact ⟨0, Nat.zero_le _, rfl, rfl, HR1.out, HB1.out, Hrd.out, HW1.out⟩
  case round =>
    clear HR1 HB1 Hrd HW1
    obtain ⟨j, hj, rfl, rfl, hR0, hB0, hrd, hW0⟩ := hrel
    obtain ⟨b, hbe⟩ : ∃ b, b = bestF (L.take j) := ⟨_, rfl⟩
    rw [← hbe] at hB0 ⊢
    by_cases hlt : j < m
    · have hlt2 : j < L.length := by rw [← Hm.out]; exact hlt
      obtain ⟨a0, o, rfl, hbl, p0, p1⟩ := rd_Step (Rd.of_own hrd) hlt2
      obtain ⟨⟨y0, y1⟩, hy⟩ : ∃ y, y = L[j] := ⟨_, rfl⟩
      rw [← hy] at p0 p1
      dsimp only at p0 p1
      have hnx : bestF (L.take (j + 1)) = bestStep b (y0, y1) := by rw [List.take_succ_eq_append_getElem hlt2, bestF_snoc, ← hbe, ← hy]
      have e0 : wr.cell? ⟨w.heap.size + 1 + 1, 0, none⟩ = some (.int .i64 (stepX b)) := by rw [hB0.cell]; rfl
      have e1 : wr.cell? ⟨w.heap.size + 1 + 1, 1, none⟩ = some (.int .i64 (stepY b)) := by rw [hB0.cell]; rfl
      have f0 := hB0.free 0
      have f1 := hB0.free 1
      have el := hB0.lt
      have rl := hR0.lt
      have wl := hW0.size
      cases b with
      | none =>
        have hq : bestF (L.take (j + 1)) = some (y0, y1) := hnx
        have Hbe := Lib.hid hbe
        clear hbe
        have Hy := Lib.hid hy
        clear hy
        have Hnx := Lib.hid hnx
        clear hnx
        have Hq := Lib.hid hq
        clear hq
        have HR0 := Lib.hid hR0
        clear hR0
        have HB0 := Lib.hid hB0
        clear hB0
        have Hrd := Lib.hid hrd
        clear hrd
        rw [Option.isSome_none]
        go_wp2_with fail
        go_roundw
        case rel =>
          refine ⟨j + 1, by omega, by go_num, by rw [Hq.out]; rfl, ?_, ?_, ?_, ?_⟩
          · exact ((HR0.out.far (p := ⟨w.heap.size + 1 + 1, 0, none⟩) (by dsimp only; omega) _).far (p := ⟨w.heap.size + 1 + 1, 1, none⟩) (by dsimp only; omega) _).alloc _
          · rw [Hq.out]; exact ((HB0.out.put 0 (.int .i64 y0)).put 1 (.int .i64 y1)).alloc _
          · exact own_keep (ownsRow_setCell_below (ownsRow_setCell_below Hrd.out (a := ⟨w.heap.size + 1 + 1, 0, none⟩) (by dsimp only; omega) _) (a := ⟨w.heap.size + 1 + 1, 1, none⟩) (by dsimp only; omega) _) ((Below.refl _ _).alloc (Nat.le_refl _) _) (Nat.le_refl _)
          · exact ((hW0.setCell (p := ⟨w.heap.size + 1 + 1, 0, none⟩) (by dsimp only; omega) _).setCell (p := ⟨w.heap.size + 1 + 1, 1, none⟩) (by dsimp only; omega) _).alloc (by simp; omega) _
        case measure => simp [intOf] <;> omega
      | some z =>
        obtain ⟨z0, z1⟩ := z
        have e2 : stepY (some (z0, z1)) = z1 := rfl
        have e3 : stepX (some (z0, z1)) = z0 := rfl
        rw [e2] at e1
        rw [e3] at e0
        rw [Option.isSome_some]
        by_cases hgt : z1 < y1
        · have hq : bestF (L.take (j + 1)) = some (y0, y1) := by rw [hnx, bestStep, if_pos hgt]
          have Hbe := Lib.hid hbe
          clear hbe
          have Hy := Lib.hid hy
          clear hy
          have Hnx := Lib.hid hnx
          clear hnx
          have Hq := Lib.hid hq
          clear hq
          have HR0 := Lib.hid hR0
          clear hR0
          have HB0 := Lib.hid hB0
          clear hB0
          have Hrd := Lib.hid hrd
          clear hrd
          have E2 := Lib.hid e2
          clear e2
          have E3 := Lib.hid e3
          clear e3
          go_wp2_with fail
          go_roundw
          case rel =>
            refine ⟨j + 1, by omega, by go_num, by rw [Hq.out]; rfl, ?_, ?_, ?_, ?_⟩
            · exact ((HR0.out.far (p := ⟨w.heap.size + 1 + 1, 0, none⟩) (by dsimp only; omega) _).far (p := ⟨w.heap.size + 1 + 1, 1, none⟩) (by dsimp only; omega) _).alloc _
            · rw [Hq.out]; exact ((HB0.out.put 0 (.int .i64 y0)).put 1 (.int .i64 y1)).alloc _
            · exact own_keep (ownsRow_setCell_below (ownsRow_setCell_below Hrd.out (a := ⟨w.heap.size + 1 + 1, 0, none⟩) (by dsimp only; omega) _) (a := ⟨w.heap.size + 1 + 1, 1, none⟩) (by dsimp only; omega) _) ((Below.refl _ _).alloc (Nat.le_refl _) _) (Nat.le_refl _)
            · exact ((hW0.setCell (p := ⟨w.heap.size + 1 + 1, 0, none⟩) (by dsimp only; omega) _).setCell (p := ⟨w.heap.size + 1 + 1, 1, none⟩) (by dsimp only; omega) _).alloc (by simp; omega) _
          case measure => simp [intOf] <;> omega
        · have hq : bestF (L.take (j + 1)) = some (z0, z1) := by rw [hnx, bestStep, if_neg hgt]
          have Hbe := Lib.hid hbe
          clear hbe
          have Hy := Lib.hid hy
          clear hy
          have Hnx := Lib.hid hnx
          clear hnx
          have Hq := Lib.hid hq
          clear hq
          have HR0 := Lib.hid hR0
          clear hR0
          have HB0 := Lib.hid hB0
          clear hB0
          have Hrd := Lib.hid hrd
          clear hrd
          have E2 := Lib.hid e2
          clear e2
          have E3 := Lib.hid e3
          clear e3
          go_wp2_with fail
          go_roundw
          case rel =>
            refine ⟨j + 1, by omega, by go_num, by rw [Hq.out]; rfl, HR0.out.alloc _, ?_, own_keep Hrd.out ((Below.refl _ _).alloc (Nat.le_refl _) _) (Nat.le_refl _), hW0.alloc hW0.size _⟩
            rw [Hq.out]; exact HB0.out.alloc _
          case measure => simp [intOf] <;> omega
    · have : j = m := by omega
      subst this
      have hF : lastS rs s = b := by rw [hbe, List.take_of_length_le (by rw [← Hm.out]; omega), HL.out, bestF_acc]; rfl
      have hV := stepV_eq (lastS rs s)
      rw [hF] at hV
      have e0 : wr.cell? ⟨w.heap.size + 1 + 1, 0, none⟩ = some (.int .i64 (stepX b)) := by rw [hB0.cell]; rfl
      have e1 : wr.cell? ⟨w.heap.size + 1 + 1, 1, none⟩ = some (.int .i64 (stepY b)) := by rw [hB0.cell]; rfl
      have r0 : wr.cell? ⟨w.heap.size + 1, 0, none⟩ = some (.int .i64 0) := by rw [hR0.cell]; rfl
      have r1 : wr.cell? ⟨w.heap.size + 1, 1, none⟩ = some (.int .i64 0) := by rw [hR0.cell]; rfl
      have f0 := hR0.free 0
      have f1 := hR0.free 1
      have el := hB0.lt
      obtain ⟨g0, hg0⟩ : ∃ g0, g0 = stepX b := ⟨_, rfl⟩
      obtain ⟨g1, hg1⟩ : ∃ g1, g1 = stepY b := ⟨_, rfl⟩
      obtain ⟨g2, hg2⟩ : ∃ g2, g2 = b.isSome := ⟨_, rfl⟩
      rw [← hg0] at e0 hV
      rw [← hg1] at e1 hV
      rw [← hg2]
      have Hbe := Lib.hid hbe
      clear hbe
      have HF := Lib.hid hF
      clear hF
      have HV := Lib.hid hV
      clear hV
      have HB0 := Lib.hid hB0
      clear hB0
      have Hrd := Lib.hid hrd
      clear hrd
      have Hg0 := Lib.hid hg0
      clear hg0
      have Hg1 := Lib.hid hg1
      clear hg1
      have Hg2 := Lib.hid hg2
      clear hg2
      go_wp2_with fail
      have hBn := (hR0.put 0 (.int .i64 g0)).put 1 (.int .i64 g1)
      have q0 := hBn.cell 0
      have q1 := hBn.cell 1
      refine bodyPost_ret (v := .tuple #[.agg #[.int .i64 g0, .int .i64 g1], .bool g2]) (by simp [results, Try.results63, go_sem, q0, q1]) rfl ?_
      exact ⟨by rw [HF.out, HV.out, ← Hg2.out], (hW0.setCell (by dsimp only; omega) _).setCell (by dsimp only; omega) _⟩

set_option maxRecDepth 100000 in
set_option maxHeartbeats 2000000 in
theorem specFarForm_any (l : Int) (A : Option Addr) (n c : Nat) (rs : List RuleT) (s : ByteArray) (w : World) (hr : Rd w A (cellsRule rs)) (hn : n = rs.length) (hb : n ≤ 1048576) (hz : ∀ x ∈ rs, x.1.size ≤ 1048576 ∧ x.2.size ≤ 1048576) (hs : s.size ≤ 1048576) :
    Calls Try.prog 23 #[.agg #[.int .i64 l, .slice A n c], .string s] w (Kept w (.tuple #[.string (ffS l rs s), .bool (takesOk l rs s)])) := by
  have hW0 : Below w.heap.size w (w.alloc (.cells #[.int .i64 l, .slice A n c] 31)) := (Below.refl _ _).alloc (Nat.le_refl _) _
  have hS0 := Bk.new w 31 #[.int .i64 l, .slice A n c]
  have Hr := Lib.hid hr
  clear hr
  have Hn := Lib.hid hn
  clear hn
  have Hz := Lib.hid hz
  clear hz
  go_enter Try.func23, Try.ntmps23
  go_wp2_with fail
  with_reducible refine (specTakes_any l A n c rs s _ (Hr.out.keep hW0) Hn.out hb Hz.out hs).mono ?_
  rintro e w1 ⟨rfl, b1⟩
  have hW1 := hW0.trans (b1.mono hW0.size)
  have hS1 := hS0.below b1 hS0.lt
  have s0_1 : w1.cell? ⟨w.heap.size, 0, none⟩ = some (.int .i64 l) := by rw [hS1.cell]; rfl
  have s1_1 : w1.cell? ⟨w.heap.size, 1, none⟩ = some (.slice A n c) := by rw [hS1.cell]; rfl
  have sl_1 := hS1.lt
  clear b1
  obtain ⟨r, hrr⟩ : ∃ r, r = takesOk l rs s := ⟨_, rfl⟩
  rw [← hrr]
  cases r
  · have e1 : ffS l rs s = ⟨#[]⟩ := by rw [ffS, ← hrr]; rfl
    have Hrr := Lib.hid hrr
    clear hrr
    have E1 := Lib.hid e1
    clear e1
    go_wp2_with fail
    go_ret2
    exact ⟨by rw [E1.out, ← Hrr.out]; rfl, hW1⟩
  have e1 : ffS l rs s = farS rs s := by rw [ffS, ← hrr]; rfl
  obtain ⟨hsy, -⟩ := takes_sys hrr.symm
  have Hrr := Lib.hid hrr
  clear hrr
  have E1 := Lib.hid e1
  clear e1
  have Hsy := Lib.hid hsy
  clear hsy
  clear hS0 hW0
  have HS1 := Lib.hid hS1
  clear hS1
  have HW1 := Lib.hid hW1
  clear hW1
  go_wp2_with fail
  go_loopw [1] (fun v wr => ∃ (cur : ByteArray), v = .string cur ∧ cur.size ≤ 1048576 ∧ Hid (farS rs s = farS rs cur) ∧ Bk wr w.heap.size 31 #[.int .i64 l, .slice A n c] ∧ Below w.heap.size w wr) (fun v _ => val4 (strOf v))
  case atStart => exact ⟨s, rfl, hs, rfl, HS1.out, HW1.out⟩
  case round =>
    clear HS1 HW1 s0_1 s1_1 sl_1
    obtain ⟨cur, rfl, hcs, HE, hS0, hW0⟩ := hrel
    have s0_0 : wr.cell? ⟨w.heap.size, 0, none⟩ = some (.int .i64 l) := by rw [hS0.cell]; rfl
    have s1_0 : wr.cell? ⟨w.heap.size, 1, none⟩ = some (.slice A n c) := by rw [hS0.cell]; rfl
    have sl_0 := hS0.lt
    go_wp2_with fail
    with_reducible refine (specLast_any l A n c rs cur _ (Hr.out.keep hW0) Hn.out hb Hz.out hcs (sys_rules Hsy.out)).mono ?_
    rintro e w1 ⟨rfl, b1⟩
    have hW1 := hW0.trans (b1.mono hW0.size)
    have hS1 := hS0.below b1 hS0.lt
    have hsl := hS1.lt
    clear b1 hS0 hW0 s0_0 s1_0 sl_0
    obtain ⟨f, hf⟩ : ∃ f, f = lastS rs cur := ⟨_, rfl⟩
    rw [← hf]
    cases f with
    | none =>
      have hN : farS rs s = cur := by rw [HE.out, farS_none hf.symm]
      have Hf := Lib.hid hf
      clear hf
      have HN := Lib.hid hN
      clear hN
      rw [stepV_none, Option.isSome_none]
      go_wp2_with fail
      go_ret2
      exact ⟨by rw [E1.out, ← Hrr.out, HN.out]; rfl, hW1.alloc hW1.size _⟩
    | some x =>
      obtain ⟨x0, x1⟩ := x
      have hmem := lastS_mem hf.symm
      obtain ⟨ea, eo⟩ := as_first (sys_rules Hsy.out) hmem
      have hsz := apply_size hmem
      have hval := step_val Hsy.out hmem
      have hE2 := farS_some Hsy.out hf.symm
      obtain ⟨nx, hnx⟩ : ∃ nx, nx = applyS rs cur (x0, x1) := ⟨_, rfl⟩
      obtain ⟨no, hno⟩ : ∃ no, no = applyOk rs cur (x0, x1) := ⟨_, rfl⟩
      rw [← hnx] at ea hsz hval hE2
      rw [← hno] at eo
      have hWa := hW1.alloc hW1.size (.cells #[.int .i64 x0, .int .i64 x1] 68)
      have hSa := hS1.alloc (.cells #[.int .i64 x0, .int .i64 x1] 68)
      have s0 : w1.cell? ⟨w.heap.size, 0, none⟩ = some (.int .i64 l) := by rw [hS1.cell]; rfl
      have s1 : w1.cell? ⟨w.heap.size, 1, none⟩ = some (.slice A n c) := by rw [hS1.cell]; rfl
      clear hmem
      rw [stepV_some, Option.isSome_some]
      have Hf := Lib.hid hf
      clear hf
      have HE2 := Lib.hid hE2
      clear hE2
      have Hnx := Lib.hid hnx
      clear hnx
      have Hno := Lib.hid hno
      clear hno
      have Ea := Lib.hid ea
      clear ea
      have Eo := Lib.hid eo
      clear eo
      have HWa := Lib.hid hWa
      clear hWa
      have HSa := Lib.hid hSa
      clear hSa
      go_wp2_with fail
      with_reducible refine (specApplyStep_any l A n c rs cur x0 x1 _ (Hr.out.keep HWa.out) Hn.out hb Hz.out hcs).mono ?_
      rintro e w3 ⟨rfl, b3⟩
      rw [Ea.out, Eo.out]
      have hW3 := HWa.out.trans (b3.mono HWa.out.size)
      have hS3 := HSa.out.below b3 HSa.out.lt
      clear b3 HWa HSa s0 s1
      go_wp2_with fail
      go_roundw
      case rel => exact ⟨nx, rfl, by omega, by unfold Hid; rw [HE.out, HE2.out], hS3, hW3⟩
      case measure => simp only [strOf_string]; omega

set_option maxRecDepth 100000 in
set_option maxHeartbeats 2000000 in
theorem implFarForm_any (l : Int) (A : Option Addr) (n c : Nat) (rs : List RuleT) (s : ByteArray) (w : World) (hr : Rd w A (cellsRule rs)) (hn : n = rs.length) (hb : n ≤ 1048576) (hz : ∀ x ∈ rs, x.1.size ≤ 1048576 ∧ x.2.size ≤ 1048576) (hs : s.size ≤ 1048576) :
    Calls Try.prog 24 #[.agg #[.int .i64 l, .slice A n c], .string s] w (Kept w (.tuple #[.string (ffS l rs s), .bool (takesOk l rs s)])) := by
  have hW0 : Below w.heap.size w (w.alloc (.cells #[.int .i64 l, .slice A n c] 31)) := (Below.refl _ _).alloc (Nat.le_refl _) _
  have hS0 := Bk.new w 31 #[.int .i64 l, .slice A n c]
  have Hr := Lib.hid hr
  clear hr
  have Hn := Lib.hid hn
  clear hn
  have Hz := Lib.hid hz
  clear hz
  go_enter Try.func24, Try.ntmps24
  go_wp2_with fail
  with_reducible refine (implTakes_any l A n c rs s _ (Hr.out.keep hW0) Hn.out hb Hz.out hs).mono ?_
  rintro e w1 ⟨rfl, b1⟩
  have hW1 := hW0.trans (b1.mono hW0.size)
  have hS1 := hS0.below b1 hS0.lt
  have s0_1 : w1.cell? ⟨w.heap.size, 0, none⟩ = some (.int .i64 l) := by rw [hS1.cell]; rfl
  have s1_1 : w1.cell? ⟨w.heap.size, 1, none⟩ = some (.slice A n c) := by rw [hS1.cell]; rfl
  have sl_1 := hS1.lt
  clear b1
  obtain ⟨r, hrr⟩ : ∃ r, r = takesOk l rs s := ⟨_, rfl⟩
  rw [← hrr]
  cases r
  · have e1 : ffS l rs s = ⟨#[]⟩ := by rw [ffS, ← hrr]; rfl
    have Hrr := Lib.hid hrr
    clear hrr
    have E1 := Lib.hid e1
    clear e1
    go_wp2_with fail
    go_ret2
    exact ⟨by rw [E1.out, ← Hrr.out]; rfl, hW1⟩
  have e1 : ffS l rs s = farS rs s := by rw [ffS, ← hrr]; rfl
  obtain ⟨hsy, -⟩ := takes_sys hrr.symm
  have Hrr := Lib.hid hrr
  clear hrr
  have E1 := Lib.hid e1
  clear e1
  have Hsy := Lib.hid hsy
  clear hsy
  go_wp2_with fail
  with_reducible refine (implLast_any l A n c rs s _ (Hr.out.keep hW1) Hn.out hb Hz.out hs).mono ?_
  rintro e w2 ⟨rfl, b1⟩
  have hW2' := hW1.trans (b1.mono hW1.size)
  have hS2' := hS1.below b1 hS1.lt
  have hsl1 := hS2'.lt
  clear s0_1 s1_1 sl_1
  clear b1
  rw [stepV_eq]
  obtain ⟨a, ha⟩ : ∃ a, a = stepX (lastS rs s) := ⟨_, rfl⟩
  obtain ⟨b, hb2⟩ : ∃ b, b = stepY (lastS rs s) := ⟨_, rfl⟩
  obtain ⟨k, hk⟩ : ∃ k, k = (lastS rs s).isSome := ⟨_, rfl⟩
  rw [← ha, ← hb2, ← hk]
  have hS2 := hS2'.alloc (.cells #[.int .i64 a, .int .i64 b] 68)
  have hW2 := hW2'.alloc hW2'.size (.cells #[.int .i64 a, .int .i64 b] 68)
  have hX2 := Bk.new w2 68 #[.int .i64 a, .int .i64 b]
  have Ha := Lib.hid ha
  clear ha
  have Hb2 := Lib.hid hb2
  clear hb2
  have Hk := Lib.hid hk
  clear hk
  have HS2 := Lib.hid hS2
  clear hS2
  have HW2 := Lib.hid hW2
  clear hW2
  have HX2 := Lib.hid hX2
  clear hX2
  go_wp2_with fail
  go_loopw [1, 6, 7] (fun v u y wr => ∃ (cur : ByteArray) (bx : Nat), v = .string cur ∧ u = .pointer (some ⟨bx, 0, none⟩) ∧ y = .bool (lastS rs cur).isSome ∧ cur.size ≤ 1048576 ∧ Hid (farS rs s = farS rs cur) ∧ Bk wr w.heap.size 31 #[.int .i64 l, .slice A n c] ∧ Bk wr bx 68 #[.int .i64 (stepX (lastS rs cur)), .int .i64 (stepY (lastS rs cur))] ∧ w.heap.size < bx ∧ Below w.heap.size w wr) (fun v _ _ _ => val4 (strOf v))
  case atStart => exact ⟨s, w2.heap.size, rfl, rfl, by rw [Hk.out], hs, by unfold Hid; rfl, HS2.out, by rw [← Ha.out, ← Hb2.out]; exact HX2.out, hsl1, HW2.out⟩
  case round =>
    clear HS2 HW2 HX2
    obtain ⟨cur, bx, rfl, rfl, rfl, hcs, HE, hS0, hX0, hbx, hW0⟩ := hrel
    obtain ⟨f, hf⟩ : ∃ f, f = lastS rs cur := ⟨_, rfl⟩
    rw [← hf] at hX0 ⊢
    cases f with
    | none =>
      have hN : farS rs s = cur := by rw [HE.out, farS_none hf.symm]
      have Hf := Lib.hid hf
      clear hf
      have HN := Lib.hid hN
      clear hN
      rw [Option.isSome_none]
      go_wp2_with fail
      go_ret2
      exact ⟨by rw [E1.out, ← Hrr.out, HN.out]; rfl, hW0⟩
    | some x =>
      obtain ⟨x0, x1⟩ := x
      have hmem := lastS_mem hf.symm
      have hsz := apply_size hmem
      have hval := step_val Hsy.out hmem
      have hE2 := farS_some Hsy.out hf.symm
      obtain ⟨K, P, hxe, hK, -, -⟩ := mem_step hmem
      have hx0 : x0 = (K : Int) := congrArg Prod.fst hxe
      obtain ⟨nx, hnx⟩ : ∃ nx, nx = applyS rs cur (x0, x1) := ⟨_, rfl⟩
      obtain ⟨no, hno⟩ : ∃ no, no = applyOk rs cur (x0, x1) := ⟨_, rfl⟩
      rw [← hnx] at hsz hval hE2
      have q0 : wr.cell? ⟨bx, 0, none⟩ = some (.int .i64 x0) := by rw [hX0.cell]; rfl
      have q1 : wr.cell? ⟨bx, 1, none⟩ = some (.int .i64 x1) := by rw [hX0.cell]; rfl
      have s0 : wr.cell? ⟨w.heap.size, 0, none⟩ = some (.int .i64 l) := by rw [hS0.cell]; rfl
      have s1 : wr.cell? ⟨w.heap.size, 1, none⟩ = some (.slice A n c) := by rw [hS0.cell]; rfl
      have xl := hX0.lt
      have sl := hS0.lt
      clear hmem hxe
      rw [Option.isSome_some]
      have Hf := Lib.hid hf
      clear hf
      have HE2 := Lib.hid hE2
      clear hE2
      have Hnx := Lib.hid hnx
      clear hnx
      have Hno := Lib.hid hno
      clear hno
      have Hx0 := Lib.hid hx0
      clear hx0
      have HX0 := Lib.hid hX0
      clear hX0
      have HS0 := Lib.hid hS0
      clear hS0
      go_wp2_with fail
      with_reducible refine (implApply_any l A n c rs cur x0 x1 K _ (Hr.out.keep hW0) Hn.out hb Hz.out hcs Hx0.out hK).mono ?_
      rintro e w3 ⟨rfl, b3⟩
      rw [← Hnx.out, ← Hno.out]
      have hW3 := hW0.trans (b3.mono hW0.size)
      have hS3 := HS0.out.below b3 HS0.out.lt
      have hX3 := HX0.out.below b3 HX0.out.lt
      clear s0 s1 q0 q1 xl sl b3 HX0 HS0 hW0
      have q0 : w3.cell? ⟨bx, 0, none⟩ = some (.int .i64 x0) := by rw [hX3.cell]; rfl
      have q1 : w3.cell? ⟨bx, 1, none⟩ = some (.int .i64 x1) := by rw [hX3.cell]; rfl
      have s0 : w3.cell? ⟨w.heap.size, 0, none⟩ = some (.int .i64 l) := by rw [hS3.cell]; rfl
      have s1 : w3.cell? ⟨w.heap.size, 1, none⟩ = some (.slice A n c) := by rw [hS3.cell]; rfl
      have xl := hX3.lt
      have sl := hS3.lt
      have hW4 := hW3.alloc hW3.size (.cells #[.int .i64 x0, .int .i64 x1] 68)
      have hS4 := hS3.alloc (.cells #[.int .i64 x0, .int .i64 x1] 68)
      have hX4 := Bk.new w3 68 #[.int .i64 x0, .int .i64 x1]
      have HX3 := Lib.hid hX3
      clear hX3
      have HS3 := Lib.hid hS3
      clear hS3
      have HW4 := Lib.hid hW4
      clear hW4
      have HS4 := Lib.hid hS4
      clear hS4
      have HX4 := Lib.hid hX4
      clear hX4
      go_wp2_with fail
      with_reducible refine (implLast_any l A n c rs nx _ (Hr.out.keep HW4.out) Hn.out hb Hz.out (by omega)).mono ?_
      rintro e w5 ⟨rfl, b5⟩
      rw [stepV_eq]
      obtain ⟨a, ha⟩ : ∃ a, a = stepX (lastS rs nx) := ⟨_, rfl⟩
      obtain ⟨b, hb2⟩ : ∃ b, b = stepY (lastS rs nx) := ⟨_, rfl⟩
      obtain ⟨k, hk⟩ : ∃ k, k = (lastS rs nx).isSome := ⟨_, rfl⟩
      rw [← ha, ← hb2, ← hk]
      have hW5 := HW4.out.trans (b5.mono HW4.out.size)
      have hS5 := HS4.out.below b5 HS4.out.lt
      have hX5 := HX4.out.below b5 HX4.out.lt
      have y0 : w5.cell? ⟨w3.heap.size, 0, none⟩ = some (.int .i64 x0) := by rw [hX5.cell]; rfl
      have y1 : w5.cell? ⟨w3.heap.size, 1, none⟩ = some (.int .i64 x1) := by rw [hX5.cell]; rfl
      have f0 := hX5.free 0
      have f1 := hX5.free 1
      have yl := hX5.lt
      clear b5 HW4 HS4 HX4 s0 s1 q0 q1
      have HX5 := Lib.hid hX5
      clear hX5
      have HS5 := Lib.hid hS5
      clear hS5
      have Ha := Lib.hid ha
      clear ha
      have Hb2 := Lib.hid hb2
      clear hb2
      have Hk := Lib.hid hk
      clear hk
      go_wp2_with fail
      go_roundw
      case rel =>
        refine ⟨nx, w3.heap.size, rfl, rfl, by rw [Hk.out], by omega, by unfold Hid; rw [HE.out, HE2.out], ?_, ?_, sl, ?_⟩
        · exact (HS5.out.far (p := ⟨w3.heap.size, 0, none⟩) (by dsimp only; omega) _).far (p := ⟨w3.heap.size, 1, none⟩) (by dsimp only; omega) _
        · rw [← Ha.out, ← Hb2.out]
          exact (HX5.out.put 0 (.int .i64 a)).put 1 (.int .i64 b)
        · exact (hW5.setCell (by dsimp only; omega) _).setCell (by dsimp only; omega) _
      case measure => simp only [strOf_string]; omega

end Go.Proofs.Ytcpkplgfgpmomaa
