/- Walks over LastStep of the reference, and FarForm (the program's and the reference's). -/
import Derived.Test.YtidmbeeadbedaaaNorm
namespace Go.Proofs.Ytidmbeeadbedaaa
open Go.RowKit Go.Shelf

def bestStep (b : Option StepT) (x : StepT) : Option StepT := match b with
  | none => some x
  | some y => if y.2 < x.2 then some x else some y
/-- The first of the steps with the greatest place. -/
def bestF (xs : List StepT) : Option StepT := xs.foldl bestStep none
theorem bestF_snoc (xs : List StepT) (x : StepT) : bestF (xs ++ [x]) = bestStep (bestF xs) x := by unfold bestF; rw [List.foldl_append]; rfl
theorem fold_row {p : Int} (xs : List StepT) (h : ∀ x ∈ xs, x.2 = p) (y : StepT) (hy : y.2 = p) : xs.foldl bestStep (some y) = some y := by
  induction xs with
  | nil => rfl
  | cons x xs ih =>
    have hx := h x List.mem_cons_self
    rw [List.foldl_cons, bestStep, if_neg (by omega)]
    exact ih (fun z hz => h z (List.mem_cons_of_mem x hz))
theorem fold_later {p : Int} (xs : List StepT) (h : ∀ x ∈ xs, x.2 = p) (b : Option StepT) (hb : ∀ y, b = some y → y.2 < p) : xs.foldl bestStep b = xs.head?.or b := by
  cases xs with
  | nil => rfl
  | cons x xs =>
    have hx := h x List.mem_cons_self
    have hs : bestStep b x = some x := by
      cases b with
      | none => rfl
      | some y => have := hb y rfl; rw [bestStep, if_pos (by omega)]
    rw [List.foldl_cons, hs]
    exact fold_row xs (fun z hz => h z (List.mem_cons_of_mem x hz)) x hx
theorem row_place {rs : List RuleT} {s : ByteArray} {i j : Nat} : ∀ x ∈ stepRow rs s i j, x.2 = (i : Int) := fun x hx => by
  unfold stepRow at hx
  simp only [List.mem_map] at hx
  obtain ⟨k, -, rfl⟩ := hx
  rfl
theorem bestF_acc (rs : List RuleT) (s : ByteArray) (i : Nat) : bestF (stepAcc rs s i) = lastTo rs s i := by
  induction i with
  | zero => rfl
  | succ i ih =>
    rw [stepAcc_succ, stepTo, bestF, List.foldl_append, lastTo]
    have e : (stepAcc rs s i).foldl bestStep none = lastTo rs s i := ih
    rw [e]
    refine fold_later _ row_place _ (fun y hy => ?_)
    obtain ⟨k, p, rfl, -, hp, -⟩ := mem_step (lastTo_mem hy)
    dsimp only
    omega



set_option maxRecDepth 100000 in
set_option maxHeartbeats 2000000 in
theorem implFarForm_any (l : Int) (A : Option Addr) (n c : Nat) (rs : List RuleT) (s : ByteArray) (w : World) (hr : Rd w A (cellsRule rs)) (hn : n = rs.length) (hb : n ≤ 1048576) (hz : ∀ x ∈ rs, x.1.size ≤ 1048576 ∧ x.2.size ≤ 1048576) (hs : s.size ≤ 1048576) :
    Calls Try.prog 31 #[.agg #[.int .i64 l, .slice A n c], .string s] w (Kept w (.tuple #[.string (ffS l rs s), .bool (takesOk l rs s)])) := by
  have hW0 : Below w.heap.size w (w.alloc (.cells #[.int .i64 l, .slice A n c] 25)) := (Below.refl _ _).alloc (Nat.le_refl _) _
  have hS0 := Bk.new w 25 #[.int .i64 l, .slice A n c]
  have Hr := Lib.hid hr
  clear hr
  have Hn := Lib.hid hn
  clear hn
  have Hz := Lib.hid hz
  clear hz
  go_enter Try.func31, Try.ntmps31
  go_wp2_with fail
  with_reducible refine (implTakes_any l A n c rs s _ (Hr.out.keep hW0) Hn.out hb Hz.out hs).mono ?_
  rintro e w1 ⟨rfl, b1⟩
  have hW1 := hW0.trans (b1.mono hW0.size)
  have hS1 := hS0.below b1 hS0.lt
  have s0_1 : w1.cell? ⟨w.heap.size, 0, none⟩ = some (.int .i64 l) := by rw [hS1.cell]; rfl
  have s1_1 : w1.cell? ⟨w.heap.size, 1, none⟩ = some (.slice A n c) := by rw [hS1.cell]; rfl
  have sl_1 := hS1.lt
  clear b1
  obtain ⟨r, hrr⟩ : ∃ r, r = takesOk l rs s := ⟨_, rfl⟩
  rw [← hrr]
  cases r
  · have e1 : ffS l rs s = ⟨#[]⟩ := by rw [ffS, ← hrr]; rfl
    have Hrr := Lib.hid hrr
    clear hrr
    have E1 := Lib.hid e1
    clear e1
    go_wp2_with fail
    go_ret2
    exact ⟨by rw [E1.out, ← Hrr.out]; rfl, hW1⟩
  have e1 : ffS l rs s = farS rs s := by rw [ffS, ← hrr]; rfl
  obtain ⟨hsy, -⟩ := takes_sys hrr.symm
  have Hrr := Lib.hid hrr
  clear hrr
  have E1 := Lib.hid e1
  clear e1
  have Hsy := Lib.hid hsy
  clear hsy
  go_wp2_with fail
  with_reducible refine (implLast_any l A n c rs s _ (Hr.out.keep hW1) Hn.out hb Hz.out hs).mono ?_
  rintro e w2 ⟨rfl, b1⟩
  have hW2' := hW1.trans (b1.mono hW1.size)
  have hS2' := hS1.below b1 hS1.lt
  have hsl1 := hS2'.lt
  clear s0_1 s1_1 sl_1
  clear b1
  rw [stepV_eq]
  obtain ⟨a, ha⟩ : ∃ a, a = stepX (lastS rs s) := ⟨_, rfl⟩
  obtain ⟨b, hb2⟩ : ∃ b, b = stepY (lastS rs s) := ⟨_, rfl⟩
  obtain ⟨k, hk⟩ : ∃ k, k = (lastS rs s).isSome := ⟨_, rfl⟩
  rw [← ha, ← hb2, ← hk]
  have hS2 := hS2'.alloc (.cells #[.int .i64 a, .int .i64 b] 61)
  have hW2 := hW2'.alloc hW2'.size (.cells #[.int .i64 a, .int .i64 b] 61)
  have hX2 := Bk.new w2 61 #[.int .i64 a, .int .i64 b]
  have Ha := Lib.hid ha
  clear ha
  have Hb2 := Lib.hid hb2
  clear hb2
  have Hk := Lib.hid hk
  clear hk
  have HS2 := Lib.hid hS2
  clear hS2
  have HW2 := Lib.hid hW2
  clear hW2
  have HX2 := Lib.hid hX2
  clear hX2
  go_wp2_with fail
  go_loopw [1, 6, 7] (fun v u y wr => ∃ (cur : ByteArray) (bx : Nat), v = .string cur ∧ u = .pointer (some ⟨bx, 0, none⟩) ∧ y = .bool (lastS rs cur).isSome ∧ cur.size ≤ 1048576 ∧ Hid (farS rs s = farS rs cur) ∧ Bk wr w.heap.size 25 #[.int .i64 l, .slice A n c] ∧ Bk wr bx 61 #[.int .i64 (stepX (lastS rs cur)), .int .i64 (stepY (lastS rs cur))] ∧ w.heap.size < bx ∧ Below w.heap.size w wr) (fun v _ _ _ => val4 (strOf v))
  case atStart => exact ⟨s, w2.heap.size, rfl, rfl, by rw [Hk.out], hs, by unfold Hid; rfl, HS2.out, by rw [← Ha.out, ← Hb2.out]; exact HX2.out, hsl1, HW2.out⟩
  case round =>
    clear HS2 HW2 HX2
    obtain ⟨cur, bx, rfl, rfl, rfl, hcs, HE, hS0, hX0, hbx, hW0⟩ := hrel
    obtain ⟨f, hf⟩ : ∃ f, f = lastS rs cur := ⟨_, rfl⟩
    rw [← hf] at hX0 ⊢
    cases f with
    | none =>
      have hN : farS rs s = cur := by rw [HE.out, farS_none hf.symm]
      have Hf := Lib.hid hf
      clear hf
      have HN := Lib.hid hN
      clear hN
      rw [Option.isSome_none]
      go_wp2_with fail
      go_ret2
      exact ⟨by rw [E1.out, ← Hrr.out, HN.out]; rfl, hW0⟩
    | some x =>
      obtain ⟨x0, x1⟩ := x
      have hmem := lastS_mem hf.symm
      have hsz := apply_size hmem
      have hval := step_val Hsy.out hmem
      have hE2 := farS_some Hsy.out hf.symm
      obtain ⟨K, P, hxe, hK, -, -⟩ := mem_step hmem
      have hx0 : x0 = (K : Int) := congrArg Prod.fst hxe
      obtain ⟨nx, hnx⟩ : ∃ nx, nx = applyS rs cur (x0, x1) := ⟨_, rfl⟩
      obtain ⟨no, hno⟩ : ∃ no, no = applyOk rs cur (x0, x1) := ⟨_, rfl⟩
      rw [← hnx] at hsz hval hE2
      have q0 : wr.cell? ⟨bx, 0, none⟩ = some (.int .i64 x0) := by rw [hX0.cell]; rfl
      have q1 : wr.cell? ⟨bx, 1, none⟩ = some (.int .i64 x1) := by rw [hX0.cell]; rfl
      have s0 : wr.cell? ⟨w.heap.size, 0, none⟩ = some (.int .i64 l) := by rw [hS0.cell]; rfl
      have s1 : wr.cell? ⟨w.heap.size, 1, none⟩ = some (.slice A n c) := by rw [hS0.cell]; rfl
      have xl := hX0.lt
      have sl := hS0.lt
      clear hmem hxe
      rw [Option.isSome_some]
      have Hf := Lib.hid hf
      clear hf
      have HE2 := Lib.hid hE2
      clear hE2
      have Hnx := Lib.hid hnx
      clear hnx
      have Hno := Lib.hid hno
      clear hno
      have Hx0 := Lib.hid hx0
      clear hx0
      have HX0 := Lib.hid hX0
      clear hX0
      have HS0 := Lib.hid hS0
      clear hS0
      go_wp2_with fail
      with_reducible refine (implApply_any l A n c rs cur x0 x1 K _ (Hr.out.keep hW0) Hn.out hb Hz.out hcs Hx0.out hK).mono ?_
      rintro e w3 ⟨rfl, b3⟩
      rw [← Hnx.out, ← Hno.out]
      have hW3 := hW0.trans (b3.mono hW0.size)
      have hS3 := HS0.out.below b3 HS0.out.lt
      have hX3 := HX0.out.below b3 HX0.out.lt
      clear s0 s1 q0 q1 xl sl b3 HX0 HS0 hW0
      have q0 : w3.cell? ⟨bx, 0, none⟩ = some (.int .i64 x0) := by rw [hX3.cell]; rfl
      have q1 : w3.cell? ⟨bx, 1, none⟩ = some (.int .i64 x1) := by rw [hX3.cell]; rfl
      have s0 : w3.cell? ⟨w.heap.size, 0, none⟩ = some (.int .i64 l) := by rw [hS3.cell]; rfl
      have s1 : w3.cell? ⟨w.heap.size, 1, none⟩ = some (.slice A n c) := by rw [hS3.cell]; rfl
      have xl := hX3.lt
      have sl := hS3.lt
      have hW4 := hW3.alloc hW3.size (.cells #[.int .i64 x0, .int .i64 x1] 61)
      have hS4 := hS3.alloc (.cells #[.int .i64 x0, .int .i64 x1] 61)
      have hX4 := Bk.new w3 61 #[.int .i64 x0, .int .i64 x1]
      have HX3 := Lib.hid hX3
      clear hX3
      have HS3 := Lib.hid hS3
      clear hS3
      have HW4 := Lib.hid hW4
      clear hW4
      have HS4 := Lib.hid hS4
      clear hS4
      have HX4 := Lib.hid hX4
      clear hX4
      go_wp2_with fail
      with_reducible refine (implLast_any l A n c rs nx _ (Hr.out.keep HW4.out) Hn.out hb Hz.out (by omega)).mono ?_
      rintro e w5 ⟨rfl, b5⟩
      rw [stepV_eq]
      obtain ⟨a, ha⟩ : ∃ a, a = stepX (lastS rs nx) := ⟨_, rfl⟩
      obtain ⟨b, hb2⟩ : ∃ b, b = stepY (lastS rs nx) := ⟨_, rfl⟩
      obtain ⟨k, hk⟩ : ∃ k, k = (lastS rs nx).isSome := ⟨_, rfl⟩
      rw [← ha, ← hb2, ← hk]
      have hW5 := HW4.out.trans (b5.mono HW4.out.size)
      have hS5 := HS4.out.below b5 HS4.out.lt
      have hX5 := HX4.out.below b5 HX4.out.lt
      have y0 : w5.cell? ⟨w3.heap.size, 0, none⟩ = some (.int .i64 x0) := by rw [hX5.cell]; rfl
      have y1 : w5.cell? ⟨w3.heap.size, 1, none⟩ = some (.int .i64 x1) := by rw [hX5.cell]; rfl
      have f0 := hX5.free 0
      have f1 := hX5.free 1
      have yl := hX5.lt
      clear b5 HW4 HS4 HX4 s0 s1 q0 q1
      have HX5 := Lib.hid hX5
      clear hX5
      have HS5 := Lib.hid hS5
      clear hS5
      have Ha := Lib.hid ha
      clear ha
      have Hb2 := Lib.hid hb2
      clear hb2
      have Hk := Lib.hid hk
      clear hk
      go_wp2_with fail
      go_roundw
      case rel =>
        refine ⟨nx, w3.heap.size, rfl, rfl, by rw [Hk.out], by omega, by unfold Hid; rw [HE.out, HE2.out], ?_, ?_, sl, ?_⟩
        · exact (HS5.out.far (p := ⟨w3.heap.size, 0, none⟩) (by dsimp only; omega) _).far (p := ⟨w3.heap.size, 1, none⟩) (by dsimp only; omega) _
        · rw [← Ha.out, ← Hb2.out]
          exact (HX5.out.put 0 (.int .i64 a)).put 1 (.int .i64 b)
        · exact (hW5.setCell (by dsimp only; omega) _).setCell (by dsimp only; omega) _
      case measure => simp only [strOf_string]; omega

end Go.Proofs.Ytidmbeeadbedaaa
