/- Walk over CyclicSystem of the program: it hands back the rules that the reference hands back. -/


import Derived.Test.YtgceabbeeobmgaaCyclic
import Derived.Test.YtgceabbeeobmgaaShelfP
namespace Go.Proofs.Ytgceabbeeobmgaa

open Go.RowKit Go.Shelf

theorem repeat_comm (l : List UInt8) (c : Nat) : Lib.repeatL l c ++ l = l ++ Lib.repeatL l c := by
  induction c with
  | zero => simp [Lib.repeatL]
  | succ c ih => rw [Lib.repeatL, List.append_assoc, ih]
theorem pow_list (c : Nat) : (pow aW c).data.toList = Lib.repeatL [97] c := by
  induction c with
  | zero => rfl
  | succ c ih =>
    rw [pow, ByteArray.data_append, Array.toList_append, ih]
    have e : aW.data.toList = [97] := rfl
    rw [e, repeat_comm, Lib.repeatL]
theorem pow_repeat (c : Nat) : (⟨(Lib.repeatL [97] c).toArray⟩ : ByteArray) = pow aW c := by
  apply ByteArray.ext
  apply Array.toList_inj.1
  rw [pow_list]
theorem cyclics_len (k : Int) : (cyclics k).length ≤ 1048576 := by
  unfold cyclics
  split <;> simp
theorem repeat_any (c : Nat) (w : World) (h : c ≤ 8) : Calls Try.prog 12 #[.string ⟨#[97]⟩, .int .i64 c] w (Kept w (.string (pow aW c))) := by
  refine (Try.strings_Repeat ⟨#[97]⟩ c w (by omega) (by show 1 * c ≤ _; omega)).mono ?_
  rintro e w' ⟨he, hb⟩
  rw [show (⟨#[97]⟩ : ByteArray).data.toList = [97] from rfl, pow_repeat] at he
  exact ⟨he, hb⟩

set_option maxRecDepth 100000 in
set_option maxHeartbeats 1000000 in
theorem implCyclicSystem_any (k : Int) (w : World) : Calls Try.prog 5 #[.int .i64 k] w (MadeSys w (cyclicL k) (cyclics k).length (cyclics k) (inB k 1 8)) := by
  have hW0 : Below w.heap.size w (w.alloc (.cells #[.int .i64 0, .slice none 0 0] 24)) := (Below.refl _ _).alloc (Nat.le_refl _) _
  have hR0 := Bk.new w 24 #[.int .i64 0, .slice none 0 0]
  go_enter Try.func5, Try.ntmps5
  go_wp2_with fail
  refine (within_any k 1 8 _).mono ?_
  rintro e w1 ⟨rfl, rfl⟩
  obtain ⟨r, hrr⟩ : ∃ r', r' = (inB k 1 8) := ⟨_, rfl⟩
  rw [← hrr]
  have HR := Lib.hid hrr
  clear hrr
  cases r
  · go_wp2_with fail
    have e1 : cyclicL k = 0 := by rw [cyclicL, ← HR.out]; rfl
    have e2 : cyclics k = [] := by rw [cyclics, ← HR.out]; rfl
    refine bodyPost_ret (v := .tuple #[.agg #[.int .i64 0, .slice none 0 0], .bool false]) (by simp [results, Try.results5, go_sem]) rfl ?_
    rw [e1, e2]
    refine ⟨none, 0, by rw [← HR.out]; rfl, World.ownsRow_nil _ _ _ _, ?_⟩
    exact (Below.refl _ _).alloc (Nat.le_refl _) _
  · obtain ⟨hk1, hk2⟩ := inB_out HR.out
    obtain ⟨K, rfl⟩ := Int.eq_ofNat_of_zero_le (show 0 ≤ k by omega)
    have e1 : cyclicL (K : Int) = 1 := by rw [cyclicL, ← HR.out]; rfl
    have e2 : cyclics (K : Int) = [cyR K] := by rw [cyclics, ← HR.out]; rfl
    have E1 := Lib.hid e1
    clear e1
    have E2 := Lib.hid e2
    clear e2
    go_wp2_with fail
    refine (repeat_any K _ (by omega)).mono ?_
    rintro e w1 ⟨rfl, b1⟩
    obtain ⟨p, hrr⟩ : ∃ r', r' = (pow aW K) := ⟨_, rfl⟩
    rw [← hrr]
    have HP := Lib.hid hrr
    clear hrr
    have hW1 := hW0.trans (b1.mono hW0.size)
    have hR1 := hR0.below b1 hR0.lt
    have r0 : w1.cell? ⟨w.heap.size, 0, none⟩ = some (.int .i64 0) := by rw [hR1.cell]; rfl
    have r1 : w1.cell? ⟨w.heap.size, 1, none⟩ = some (.slice none 0 0) := by rw [hR1.cell]; rfl
    have f0 := hR1.free 0
    have f1 := hR1.free 1
    have rl := hR1.lt
    have hS1 := hR1.put 0 (.int .i64 1)
    have hS2 := hS1.put 1 (.slice (some ⟨w1.heap.size, 0, none⟩) 1 1)
    have hT1 := hW1.setCell (p := ⟨w.heap.size, 0, none⟩) (by dsimp only; omega) (.int .i64 1)
    have hT2 := hT1.setCell (p := ⟨w.heap.size, 1, none⟩) (by dsimp only; omega) (.slice (some ⟨w1.heap.size, 0, none⟩) 1 1)
    have hsz : ((w1.setCell ⟨w.heap.size, 0, none⟩ (.int .i64 1)).setCell ⟨w.heap.size, 1, none⟩ (.slice (some ⟨w1.heap.size, 0, none⟩) 1 1)).heap.size = w1.heap.size := by simp
    have hG := (Bk.new ((w1.setCell ⟨w.heap.size, 0, none⟩ (.int .i64 1)).setCell ⟨w.heap.size, 1, none⟩ (.slice (some ⟨w1.heap.size, 0, none⟩) 1 1)) 34 #[.string p, .string ⟨#[]⟩]).cast hsz
    have hBn := hS2.alloc (.cells #[.string p, .string ⟨#[]⟩] 34)
    have hWn := hT2.alloc hT2.size (.cells #[.string p, .string ⟨#[]⟩] 34)
    clear hR0 hW0 b1 hR1 hS1 hS2 hT1 hT2 hsz
    have HG := Lib.hid hG
    clear hG
    have HBn := Lib.hid hBn
    clear hBn
    have HWn := Lib.hid hWn
    clear hWn
    go_wp2_with fail
    have q0 := HBn.out.cell 0
    have q1 := HBn.out.cell 1
    refine bodyPost_ret (v := .tuple #[.agg #[.int .i64 1, .slice (some ⟨w1.heap.size, 0, none⟩) 1 1], .bool true]) (by simp [results, Try.results5, go_sem, q0, q1]) rfl ?_
    rw [E1.out, E2.out]
    refine ⟨some ⟨w1.heap.size, 0, none⟩, 1, by rw [← HR.out]; rfl, ?_, HWn.out⟩
    have ho := own_of_bk (base := w.heap.size) (m := 2) (n := 1) HG.out (by omega) (by simp) (by unfold maxLen; omega)
    rw [HP.out] at ho ⊢
    exact ho

end Go.Proofs.Ytgceabbeeobmgaa
