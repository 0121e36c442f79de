/- Merged texts: a claim has a limit of files. -/
import Derived.Test.YteafeecndghapaaGreatNorm
import Derived.Test.YteafeecndghapaaGreatMg2
import Derived.Test.YteafeecndghapaaGreatMg1

/- Walks over LastStep of the reference, and FarForm (the program's and the reference's). -/
namespace Go.Proofs.YteafeecndghapaaGreat
open Go.RowKit Go.Shelf

set_option maxRecDepth 100000 in
set_option maxHeartbeats 2000000 in
theorem implFarForm_any (l : Int) (A : Option Addr) (n c : Nat) (rs : List RuleT) (s : ByteArray) (w : World) (hr : Rd w A (cellsRule rs)) (hn : n = rs.length) (hb : n ≤ 1048576) (hz : ∀ x ∈ rs, x.1.size ≤ 1048576 ∧ x.2.size ≤ 1048576) (hs : s.size ≤ 1048576) :
    Calls Tryz.prog 10 #[.agg #[.int .i64 l, .slice A n c], .string s] w (Kept w (.tuple #[.string (ffS l rs s), .bool (takesOk l rs s)])) := by
  have hW0 : Below w.heap.size w (w.alloc (.cells #[.int .i64 l, .slice A n c] 25)) := (Below.refl _ _).alloc (Nat.le_refl _) _
  have hS0 := Bk.new w 25 #[.int .i64 l, .slice A n c]
  have Hr := Lib.hid hr
  clear hr
  have Hn := Lib.hid hn
  clear hn
  have Hz := Lib.hid hz
  clear hz
  go_enter Tryz.func10, Tryz.ntmps10
  go_wp2_with fail
  with_reducible refine (implTakes_any l A n c rs s _ (Hr.out.keep hW0) Hn.out hb Hz.out hs).mono ?_
  rintro e w1 ⟨rfl, b1⟩
  have hW1 := hW0.trans (b1.mono hW0.size)
  have hS1 := hS0.below b1 hS0.lt
  have s0_1 : w1.cell? ⟨w.heap.size, 0, none⟩ = some (.int .i64 l) := by rw [hS1.cell]; rfl
  have s1_1 : w1.cell? ⟨w.heap.size, 1, none⟩ = some (.slice A n c) := by rw [hS1.cell]; rfl
  have sl_1 := hS1.lt
  clear b1
  obtain ⟨r, hrr⟩ : ∃ r, r = takesOk l rs s := ⟨_, rfl⟩
  rw [← hrr]
  cases r
  · have e1 : ffS l rs s = ⟨#[]⟩ := by rw [ffS, ← hrr]; rfl
    have Hrr := Lib.hid hrr
    clear hrr
    have E1 := Lib.hid e1
    clear e1
    go_wp2_with fail
    go_ret2
    exact ⟨by rw [E1.out, ← Hrr.out]; rfl, hW1⟩
  have e1 : ffS l rs s = farS rs s := by rw [ffS, ← hrr]; rfl
  obtain ⟨hsy, -⟩ := takes_sys hrr.symm
  have Hrr := Lib.hid hrr
  clear hrr
  have E1 := Lib.hid e1
  clear e1
  have Hsy := Lib.hid hsy
  clear hsy
  go_wp2_with fail
  with_reducible refine (implLast_any l A n c rs s _ (Hr.out.keep hW1) Hn.out hb Hz.out hs).mono ?_
  rintro e w2 ⟨rfl, b1⟩
  have hW2' := hW1.trans (b1.mono hW1.size)
  have hS2' := hS1.below b1 hS1.lt
  have hsl1 := hS2'.lt
  clear s0_1 s1_1 sl_1
  clear b1
  rw [stepV_eq]
  obtain ⟨a, ha⟩ : ∃ a, a = stepX (lastS rs s) := ⟨_, rfl⟩
  obtain ⟨b, hb2⟩ : ∃ b, b = stepY (lastS rs s) := ⟨_, rfl⟩
  obtain ⟨k, hk⟩ : ∃ k, k = (lastS rs s).isSome := ⟨_, rfl⟩
  rw [← ha, ← hb2, ← hk]
  have hS2 := hS2'.alloc (.cells #[.int .i64 a, .int .i64 b] 56)
  have hW2 := hW2'.alloc hW2'.size (.cells #[.int .i64 a, .int .i64 b] 56)
  have hX2 := Bk.new w2 56 #[.int .i64 a, .int .i64 b]
  have Ha := Lib.hid ha
  clear ha
  have Hb2 := Lib.hid hb2
  clear hb2
  have Hk := Lib.hid hk
  clear hk
  have HS2 := Lib.hid hS2
  clear hS2
  have HW2 := Lib.hid hW2
  clear hW2
  have HX2 := Lib.hid hX2
  clear hX2
  go_wp2_with fail
  go_loopw [1, 6, 7] (fun v u y wr => ∃ (cur : ByteArray) (bx : Nat), v = .string cur ∧ u = .pointer (some ⟨bx, 0, none⟩) ∧ y = .bool (lastS rs cur).isSome ∧ cur.size ≤ 1048576 ∧ Hid (farS rs s = farS rs cur) ∧ Bk wr w.heap.size 25 #[.int .i64 l, .slice A n c] ∧ Bk wr bx 56 #[.int .i64 (stepX (lastS rs cur)), .int .i64 (stepY (lastS rs cur))] ∧ w.heap.size < bx ∧ Below w.heap.size w wr) (fun v _ _ _ => val4 (strOf v))
  case atStart => exact ⟨s, w2.heap.size, rfl, rfl, by rw [Hk.out], hs, by unfold Hid; rfl, HS2.out, by rw [← Ha.out, ← Hb2.out]; exact HX2.out, hsl1, HW2.out⟩
  case round =>
    clear HS2 HW2 HX2
    obtain ⟨cur, bx, rfl, rfl, rfl, hcs, HE, hS0, hX0, hbx, hW0⟩ := hrel
    obtain ⟨f, hf⟩ : ∃ f, f = lastS rs cur := ⟨_, rfl⟩
    rw [← hf] at hX0 ⊢
    cases f with
    | none =>
      have hN : farS rs s = cur := by rw [HE.out, farS_none hf.symm]
      have Hf := Lib.hid hf
      clear hf
      have HN := Lib.hid hN
      clear hN
      rw [Option.isSome_none]
      go_wp2_with fail
      go_ret2
      exact ⟨by rw [E1.out, ← Hrr.out, HN.out]; rfl, hW0⟩
    | some x =>
      obtain ⟨x0, x1⟩ := x
      have hmem := lastS_mem hf.symm
      have hsz := apply_size hmem
      have hval := step_val Hsy.out hmem
      have hE2 := farS_some Hsy.out hf.symm
      obtain ⟨K, P, hxe, hK, -, -⟩ := mem_step hmem
      have hx0 : x0 = (K : Int) := congrArg Prod.fst hxe
      obtain ⟨nx, hnx⟩ : ∃ nx, nx = applyS rs cur (x0, x1) := ⟨_, rfl⟩
      obtain ⟨no, hno⟩ : ∃ no, no = applyOk rs cur (x0, x1) := ⟨_, rfl⟩
      rw [← hnx] at hsz hval hE2
      have q0 : wr.cell? ⟨bx, 0, none⟩ = some (.int .i64 x0) := by rw [hX0.cell]; rfl
      have q1 : wr.cell? ⟨bx, 1, none⟩ = some (.int .i64 x1) := by rw [hX0.cell]; rfl
      have s0 : wr.cell? ⟨w.heap.size, 0, none⟩ = some (.int .i64 l) := by rw [hS0.cell]; rfl
      have s1 : wr.cell? ⟨w.heap.size, 1, none⟩ = some (.slice A n c) := by rw [hS0.cell]; rfl
      have xl := hX0.lt
      have sl := hS0.lt
      clear hmem hxe
      rw [Option.isSome_some]
      have Hf := Lib.hid hf
      clear hf
      have HE2 := Lib.hid hE2
      clear hE2
      have Hnx := Lib.hid hnx
      clear hnx
      have Hno := Lib.hid hno
      clear hno
      have Hx0 := Lib.hid hx0
      clear hx0
      have HX0 := Lib.hid hX0
      clear hX0
      have HS0 := Lib.hid hS0
      clear hS0
      go_wp2_with fail
      with_reducible refine (implApply_any l A n c rs cur x0 x1 K _ (Hr.out.keep hW0) Hn.out hb Hz.out hcs Hx0.out hK).mono ?_
      rintro e w3 ⟨rfl, b3⟩
      rw [← Hnx.out, ← Hno.out]
      have hW3 := hW0.trans (b3.mono hW0.size)
      have hS3 := HS0.out.below b3 HS0.out.lt
      have hX3 := HX0.out.below b3 HX0.out.lt
      clear s0 s1 q0 q1 xl sl b3 HX0 HS0 hW0
      have q0 : w3.cell? ⟨bx, 0, none⟩ = some (.int .i64 x0) := by rw [hX3.cell]; rfl
      have q1 : w3.cell? ⟨bx, 1, none⟩ = some (.int .i64 x1) := by rw [hX3.cell]; rfl
      have s0 : w3.cell? ⟨w.heap.size, 0, none⟩ = some (.int .i64 l) := by rw [hS3.cell]; rfl
      have s1 : w3.cell? ⟨w.heap.size, 1, none⟩ = some (.slice A n c) := by rw [hS3.cell]; rfl
      have xl := hX3.lt
      have sl := hS3.lt
      have hW4 := hW3.alloc hW3.size (.cells #[.int .i64 x0, .int .i64 x1] 56)
      have hS4 := hS3.alloc (.cells #[.int .i64 x0, .int .i64 x1] 56)
      have hX4 := Bk.new w3 56 #[.int .i64 x0, .int .i64 x1]
      have HX3 := Lib.hid hX3
      clear hX3
      have HS3 := Lib.hid hS3
      clear hS3
      have HW4 := Lib.hid hW4
      clear hW4
      have HS4 := Lib.hid hS4
      clear hS4
      have HX4 := Lib.hid hX4
      clear hX4
      go_wp2_with fail
      with_reducible refine (implLast_any l A n c rs nx _ (Hr.out.keep HW4.out) Hn.out hb Hz.out (by omega)).mono ?_
      rintro e w5 ⟨rfl, b5⟩
      rw [stepV_eq]
      obtain ⟨a, ha⟩ : ∃ a, a = stepX (lastS rs nx) := ⟨_, rfl⟩
      obtain ⟨b, hb2⟩ : ∃ b, b = stepY (lastS rs nx) := ⟨_, rfl⟩
      obtain ⟨k, hk⟩ : ∃ k, k = (lastS rs nx).isSome := ⟨_, rfl⟩
      rw [← ha, ← hb2, ← hk]
      have hW5 := HW4.out.trans (b5.mono HW4.out.size)
      have hS5 := HS4.out.below b5 HS4.out.lt
      have hX5 := HX4.out.below b5 HX4.out.lt
      have y0 : w5.cell? ⟨w3.heap.size, 0, none⟩ = some (.int .i64 x0) := by rw [hX5.cell]; rfl
      have y1 : w5.cell? ⟨w3.heap.size, 1, none⟩ = some (.int .i64 x1) := by rw [hX5.cell]; rfl
      have f0 := hX5.free 0
      have f1 := hX5.free 1
      have yl := hX5.lt
      clear b5 HW4 HS4 HX4 s0 s1 q0 q1
      have HX5 := Lib.hid hX5
      clear hX5
      have HS5 := Lib.hid hS5
      clear hS5
      have Ha := Lib.hid ha
      clear ha
      have Hb2 := Lib.hid hb2
      clear hb2
      have Hk := Lib.hid hk
      clear hk
      go_wp2_with fail
      go_roundw
      case rel =>
        refine ⟨nx, w3.heap.size, rfl, rfl, by rw [Hk.out], by omega, by unfold Hid; rw [HE.out, HE2.out], ?_, ?_, sl, ?_⟩
        · exact (HS5.out.far (p := ⟨w3.heap.size, 0, none⟩) (by dsimp only; omega) _).far (p := ⟨w3.heap.size, 1, none⟩) (by dsimp only; omega) _
        · rw [← Ha.out, ← Hb2.out]
          exact (HX5.out.put 0 (.int .i64 a)).put 1 (.int .i64 b)
        · exact (hW5.setCell (by dsimp only; omega) _).setCell (by dsimp only; omega) _
      case measure => simp only [strOf_string]; omega

end Go.Proofs.YteafeecndghapaaGreat

/- Walks over the laws' helpers for impl.Link: eqLink, eqLinkS, markLinkS, heldLinkS and the readings of slices of them. -/
namespace Go.Proofs.YteafeecndghapaaGreat
open Go.RowKit Go.Shelf

abbrev LinkT : Type := Int × Int × Bool
def encLink (x : LinkT) : List Value := [.int .i64 x.1, .int .i64 x.2.1, .bool x.2.2]
def cellsLink (xs : List LinkT) : List Value := xs.flatMap encLink
theorem cellsLink_len (xs : List LinkT) : (cellsLink xs).length = xs.length * 3 := flat_len (enc := encLink) (m := 3) (fun _ => rfl) xs
theorem info_Link : (Tryz.prog.info? 45).map (fun i => (i.zero, i.size, i.bytes)) = some (some (.agg #[.int .i64 0, .int .i64 0, .bool false]), 3, 24) := by kernel_rfl

/-- The cells of element k. -/
theorem rd_Link {w : World} {A : Option Addr} {xs : List LinkT} (h : Rd w A (cellsLink xs)) {k : Nat} (hk : k < xs.length) : ∃ b off, A = some ⟨b, off, none⟩ ∧ b < w.heap.size ∧
    w.cell? ⟨b, off + k * 3, none⟩ = some (.int .i64 xs[k].1) ∧ w.cell? ⟨b, off + k * 3 + 1, none⟩ = some (.int .i64 xs[k].2.1) ∧ w.cell? ⟨b, off + k * 3 + 2, none⟩ = some (.bool xs[k].2.2) := by
  have f0 := flat_get (enc := encLink) (m := 3) (fun _ => rfl) xs k 0 hk (by omega)
  obtain ⟨b, off, e, hb, hc⟩ := h (by intro e; unfold cellsLink at e; rw [e] at f0; cases f0)
  refine ⟨b, off, e, hb, ?_, ?_, ?_⟩
  · exact hc (k * 3) _ f0
  · exact hc (k * 3 + 1) _ (flat_get (enc := encLink) (m := 3) (fun _ => rfl) xs k 1 hk (by omega))
  · exact hc (k * 3 + 2) _ (flat_get (enc := encLink) (m := 3) (fun _ => rfl) xs k 2 hk (by omega))





end Go.Proofs.YteafeecndghapaaGreat
