/- For every input the law FnExactParseTag returns true and leaves its arguments as they were. No condition. -/













import Derived.Test.YtgceabbeeobmgaaDoorPtI
import Derived.Test.YtgceabbeeobmgaaDoorTag
import Derived.Test.YtgceabbeeobmgaaDoorOpen
import Derived.Test.YtgceabbeeobmgaaDoorMark
import Derived.Test.YtgceabbeeobmgaaDoorStr
import Derived.Test.YtgceabbeeobmgaaDoorApp
import Derived.Test.YtgceabbeeobmgaaDoorLawBase
import Derived.Test.YtgceabbeeobmgaaDoorLaid
import Derived.Test.YtgceabbeeobmgaaDoorTie
import Derived.Test.YtgceabbeeobmgaaDoorCards
import Derived.LaidMore
import Derived.SevenTiedAt
import Derived.Stop.Joined
import Derived.ProofKit
import Derived.OpenShut
import Derived.Lay
namespace Go.Proofs.YtgceabbeeobmgaaDoor

open Go.ChangeShapes Go.WideShapes Go.ChangeAt Go.RowKit Go.Shelf

set_option maxRecDepth 100000 in
set_option maxHeartbeats 1000000 in
theorem law_ParseTag (w : World) (s : ByteArray) (hw0 : s.size ≤ maxLen) (hL : LaidW w) :
    Calls Tryd.prog 5 #[.string s] w (Kept w (.bool true)) := by
  unfold maxLen at hw0
  by_cases hb0 : s.size ≤ 1048576
  rotate_left
  · skip
    go_enter Tryd.func5, Tryd.ntmps5
    go_wp2_with fail
    go_ret
    exact ⟨rfl, (by repeat (first | exact Below.refl _ _ | (refine Below.alloc ?_ (by simp <;> omega) _)))⟩
  go_enter Tryd.func5, Tryd.ntmps5
  go_wp2_with fail
  (with_reducible refine (specParseTag_any s _ hb0 (by first | exact hL | exact hL.keep (by assumption))).mono ?_)
  rintro e w1 ⟨B1, d1, rfl, og1_1, b1⟩
  have t1 := b1
  go_wp2_with fail
  generalize hq : w1.alloc (.cells #[.int .i64 (ptL s), .slice B1 ((ptT s).length) d1] 42) = w2
  have b2 : Below w1.heap.size w1 w2 := by rw [← hq]; exact (Below.refl _ _).alloc (Nat.le_refl _) _
  have t2 := t1.trans (b2.mono t1.size)
  have xv2_2 : Bk w2 w1.heap.size 42 #[.int .i64 (ptL s), .slice B1 ((ptT s).length) d1] := by rw [← hq]; exact Bk.new _ _ _
  clear hq
  have og1_2 := own_keep og1_1 b2 (Nat.le_refl _)
  clear og1_1
  have cv2_0 : w2.cell? ⟨w1.heap.size, 0, none⟩ = some (.int .i64 (ptL s)) := by rw [xv2_2.cell]; rfl
  have cv2_1 : w2.cell? ⟨w1.heap.size, 1, none⟩ = some (.slice B1 ((ptT s).length) d1) := by rw [xv2_2.cell]; rfl
  have lv2 := xv2_2.lt
  have XV2_2 := Lib.hid xv2_2
  clear xv2_2
  (try go_wp2_with fail)
  (with_reducible refine (implParseTag_any s _ hb0 (by first | exact hL | exact hL.keep (by assumption))).mono ?_)
  rintro e w3 ⟨B3, d3, rfl, og3_3, b3⟩
  have t3 := t2.trans (b3.mono t2.size)
  have a_g1_g3 := Lib.hid (own_apart og1_2 og3_3 (Nat.le_refl _))
  have a_g3_g1 := Lib.hid (own_apart' og3_3 og1_2 (Nat.le_refl _))
  clear lv2 cv2_0 cv2_1
  have og1_3 := own_keep og1_2 b3 (Nat.le_refl _)
  clear og1_2
  have xv2_3 := XV2_2.out.below b3 XV2_2.out.lt
  clear XV2_2
  have cv2_0 : w3.cell? ⟨w1.heap.size, 0, none⟩ = some (.int .i64 (ptL s)) := by rw [xv2_3.cell]; rfl
  have cv2_1 : w3.cell? ⟨w1.heap.size, 1, none⟩ = some (.slice B1 ((ptT s).length) d1) := by rw [xv2_3.cell]; rfl
  have lv2 := xv2_3.lt
  have XV2_3 := Lib.hid xv2_3
  clear xv2_3
  go_wp2_with fail
  generalize hq : w3.alloc (.cells #[.int .i64 (ptL s), .slice B3 ((ptT s).length) d3] 42) = w4
  have b4 : Below w3.heap.size w3 w4 := by rw [← hq]; exact (Below.refl _ _).alloc (Nat.le_refl _) _
  have t4 := t3.trans (b4.mono t3.size)
  have xv4_4 : Bk w4 w3.heap.size 42 #[.int .i64 (ptL s), .slice B3 ((ptT s).length) d3] := by rw [← hq]; exact Bk.new _ _ _
  clear hq
  clear lv2 cv2_0 cv2_1
  have og1_4 := own_keep og1_3 b4 (Nat.le_refl _)
  clear og1_3
  have og3_4 := own_keep og3_3 b4 (Nat.le_refl _)
  clear og3_3
  have xv2_4 := XV2_3.out.below b4 XV2_3.out.lt
  clear XV2_3
  have cv2_0 : w4.cell? ⟨w1.heap.size, 0, none⟩ = some (.int .i64 (ptL s)) := by rw [xv2_4.cell]; rfl
  have cv2_1 : w4.cell? ⟨w1.heap.size, 1, none⟩ = some (.slice B1 ((ptT s).length) d1) := by rw [xv2_4.cell]; rfl
  have lv2 := xv2_4.lt
  have XV2_4 := Lib.hid xv2_4
  clear xv2_4
  have cv4_0 : w4.cell? ⟨w3.heap.size, 0, none⟩ = some (.int .i64 (ptL s)) := by rw [xv4_4.cell]; rfl
  have cv4_1 : w4.cell? ⟨w3.heap.size, 1, none⟩ = some (.slice B3 ((ptT s).length) d3) := by rw [xv4_4.cell]; rfl
  have lv4 := xv4_4.lt
  have XV4_4 := Lib.hid xv4_4
  clear xv4_4
  (try go_wp2_with fail)
  (with_reducible refine (eqTag_k (ptL s) B3 ((ptT s).length) d3 (ptT s) (ptL s)  B1 ((ptT s).length) d1 (ptT s) _ (Rd.of_own og3_4) rfl (le_big (ptT_len s hb0)) (Rd.of_own og1_4) rfl (le_big (ptT_len s hb0))).mono ?_)
  rintro e w5 ⟨rfl, b5⟩
  have t5 := t4.trans (b5.mono t4.size)
  clear lv2 cv2_0 cv2_1
  clear lv4 cv4_0 cv4_1
  have og1_5 := own_keep og1_4 b5 (Nat.le_refl _)
  clear og1_4
  have og3_5 := own_keep og3_4 b5 (Nat.le_refl _)
  clear og3_4
  have xv2_5 := XV2_4.out.below b5 XV2_4.out.lt
  clear XV2_4
  have xv4_5 := XV4_4.out.below b5 XV4_4.out.lt
  clear XV4_4
  have cv2_0 : w5.cell? ⟨w1.heap.size, 0, none⟩ = some (.int .i64 (ptL s)) := by rw [xv2_5.cell]; rfl
  have cv2_1 : w5.cell? ⟨w1.heap.size, 1, none⟩ = some (.slice B1 ((ptT s).length) d1) := by rw [xv2_5.cell]; rfl
  have lv2 := xv2_5.lt
  have XV2_5 := Lib.hid xv2_5
  clear xv2_5
  have cv4_0 : w5.cell? ⟨w3.heap.size, 0, none⟩ = some (.int .i64 (ptL s)) := by rw [xv4_5.cell]; rfl
  have cv4_1 : w5.cell? ⟨w3.heap.size, 1, none⟩ = some (.slice B3 ((ptT s).length) d3) := by rw [xv4_5.cell]; rfl
  have lv4 := xv4_5.lt
  have XV4_5 := Lib.hid xv4_5
  clear xv4_5
  go_wp2_with fail
  (with_reducible refine (markTag_any (ptL s) B3 ((ptT s).length) d3 _ 1 _ _ og3_5 (by omega) (by have := (ptT_len s hb0); omega)).mono ?_)
  rintro e w6 ⟨rfl, og3_6, gr6⟩
  have t6 := below_marked t5 gr6 og3_5 t2.size
  have og1_6 := og1_5.kept gr6 a_g1_g3.out
  clear og1_5
  clear lv2 cv2_0 cv2_1
  clear lv4 cv4_0 cv4_1
  have xv2_6 := XV2_5.out.grown gr6 (own_bk_ne og3_5 XV2_5.out (by decide))
  clear XV2_5
  have xv4_6 := XV4_5.out.grown gr6 (own_bk_ne og3_5 XV4_5.out (by decide))
  clear XV4_5
  have cv2_0 : w6.cell? ⟨w1.heap.size, 0, none⟩ = some (.int .i64 (ptL s)) := by rw [xv2_6.cell]; rfl
  have cv2_1 : w6.cell? ⟨w1.heap.size, 1, none⟩ = some (.slice B1 ((ptT s).length) d1) := by rw [xv2_6.cell]; rfl
  have lv2 := xv2_6.lt
  have XV2_6 := Lib.hid xv2_6
  clear xv2_6
  have cv4_0 : w6.cell? ⟨w3.heap.size, 0, none⟩ = some (.int .i64 (ptL s)) := by rw [xv4_6.cell]; rfl
  have cv4_1 : w6.cell? ⟨w3.heap.size, 1, none⟩ = some (.slice B3 ((ptT s).length) d3) := by rw [xv4_6.cell]; rfl
  have lv4 := xv4_6.lt
  have XV4_6 := Lib.hid xv4_6
  clear xv4_6
  clear og3_5 gr6
  go_wp2_with fail
  (with_reducible refine (heldTag_k (ptL s) B3 ((ptT s).length) d3 1 _ (Rd.of_own og3_6) (by omega) (by have := (ptT_len s hb0); omega)).mono ?_)
  rintro e w7 ⟨rfl, b7⟩
  have t7 := t6.trans (b7.mono t6.size)
  clear lv2 cv2_0 cv2_1
  clear lv4 cv4_0 cv4_1
  have og1_7 := own_keep og1_6 b7 (Nat.le_refl _)
  clear og1_6
  have og3_7 := own_keep og3_6 b7 (Nat.le_refl _)
  clear og3_6
  have xv2_7 := XV2_6.out.below b7 XV2_6.out.lt
  clear XV2_6
  have xv4_7 := XV4_6.out.below b7 XV4_6.out.lt
  clear XV4_6
  have cv2_0 : w7.cell? ⟨w1.heap.size, 0, none⟩ = some (.int .i64 (ptL s)) := by rw [xv2_7.cell]; rfl
  have cv2_1 : w7.cell? ⟨w1.heap.size, 1, none⟩ = some (.slice B1 ((ptT s).length) d1) := by rw [xv2_7.cell]; rfl
  have lv2 := xv2_7.lt
  have XV2_7 := Lib.hid xv2_7
  clear xv2_7
  have cv4_0 : w7.cell? ⟨w3.heap.size, 0, none⟩ = some (.int .i64 (ptL s)) := by rw [xv4_7.cell]; rfl
  have cv4_1 : w7.cell? ⟨w3.heap.size, 1, none⟩ = some (.slice B3 ((ptT s).length) d3) := by rw [xv4_7.cell]; rfl
  have lv4 := xv4_7.lt
  have XV4_7 := Lib.hid xv4_7
  clear xv4_7
  go_wp2_with fail
  (with_reducible refine (implParseTag_any s _ hb0 (by first | exact hL | exact hL.keep (by assumption))).mono ?_)
  rintro e w8 ⟨B8, d8, rfl, og8_8, b8⟩
  have t8 := t7.trans (b8.mono t7.size)
  have a_g1_g8 := Lib.hid (own_apart og1_7 og8_8 (Nat.le_refl _))
  have a_g8_g1 := Lib.hid (own_apart' og8_8 og1_7 (Nat.le_refl _))
  have a_g3_g8 := Lib.hid (own_apart og3_7 og8_8 (Nat.le_refl _))
  have a_g8_g3 := Lib.hid (own_apart' og8_8 og3_7 (Nat.le_refl _))
  clear lv2 cv2_0 cv2_1
  clear lv4 cv4_0 cv4_1
  have og1_8 := own_keep og1_7 b8 (Nat.le_refl _)
  clear og1_7
  have og3_8 := own_keep og3_7 b8 (Nat.le_refl _)
  clear og3_7
  have xv2_8 := XV2_7.out.below b8 XV2_7.out.lt
  clear XV2_7
  have xv4_8 := XV4_7.out.below b8 XV4_7.out.lt
  clear XV4_7
  have cv2_0 : w8.cell? ⟨w1.heap.size, 0, none⟩ = some (.int .i64 (ptL s)) := by rw [xv2_8.cell]; rfl
  have cv2_1 : w8.cell? ⟨w1.heap.size, 1, none⟩ = some (.slice B1 ((ptT s).length) d1) := by rw [xv2_8.cell]; rfl
  have lv2 := xv2_8.lt
  have XV2_8 := Lib.hid xv2_8
  clear xv2_8
  have cv4_0 : w8.cell? ⟨w3.heap.size, 0, none⟩ = some (.int .i64 (ptL s)) := by rw [xv4_8.cell]; rfl
  have cv4_1 : w8.cell? ⟨w3.heap.size, 1, none⟩ = some (.slice B3 ((ptT s).length) d3) := by rw [xv4_8.cell]; rfl
  have lv4 := xv4_8.lt
  have XV4_8 := Lib.hid xv4_8
  clear xv4_8
  go_wp2_with fail
  generalize hq : w8.alloc (.cells #[.int .i64 (ptL s), .slice B8 ((ptT s).length) d8] 42) = w9
  have b9 : Below w8.heap.size w8 w9 := by rw [← hq]; exact (Below.refl _ _).alloc (Nat.le_refl _) _
  have t9 := t8.trans (b9.mono t8.size)
  have xv9_9 : Bk w9 w8.heap.size 42 #[.int .i64 (ptL s), .slice B8 ((ptT s).length) d8] := by rw [← hq]; exact Bk.new _ _ _
  clear hq
  clear lv2 cv2_0 cv2_1
  clear lv4 cv4_0 cv4_1
  have og1_9 := own_keep og1_8 b9 (Nat.le_refl _)
  clear og1_8
  have og3_9 := own_keep og3_8 b9 (Nat.le_refl _)
  clear og3_8
  have og8_9 := own_keep og8_8 b9 (Nat.le_refl _)
  clear og8_8
  have xv2_9 := XV2_8.out.below b9 XV2_8.out.lt
  clear XV2_8
  have xv4_9 := XV4_8.out.below b9 XV4_8.out.lt
  clear XV4_8
  have cv2_0 : w9.cell? ⟨w1.heap.size, 0, none⟩ = some (.int .i64 (ptL s)) := by rw [xv2_9.cell]; rfl
  have cv2_1 : w9.cell? ⟨w1.heap.size, 1, none⟩ = some (.slice B1 ((ptT s).length) d1) := by rw [xv2_9.cell]; rfl
  have lv2 := xv2_9.lt
  have XV2_9 := Lib.hid xv2_9
  clear xv2_9
  have cv4_0 : w9.cell? ⟨w3.heap.size, 0, none⟩ = some (.int .i64 (ptL s)) := by rw [xv4_9.cell]; rfl
  have cv4_1 : w9.cell? ⟨w3.heap.size, 1, none⟩ = some (.slice B3 ((ptT s).length) d3) := by rw [xv4_9.cell]; rfl
  have lv4 := xv4_9.lt
  have XV4_9 := Lib.hid xv4_9
  clear xv4_9
  have cv9_0 : w9.cell? ⟨w8.heap.size, 0, none⟩ = some (.int .i64 (ptL s)) := by rw [xv9_9.cell]; rfl
  have cv9_1 : w9.cell? ⟨w8.heap.size, 1, none⟩ = some (.slice B8 ((ptT s).length) d8) := by rw [xv9_9.cell]; rfl
  have lv9 := xv9_9.lt
  have XV9_9 := Lib.hid xv9_9
  clear xv9_9
  (try go_wp2_with fail)
  (with_reducible refine (eqTag_k (ptL s) B8 ((ptT s).length) d8 (ptT s) (ptL s)  B1 ((ptT s).length) d1 (ptT s) _ (Rd.of_own og8_9) rfl (le_big (ptT_len s hb0)) (Rd.of_own og1_9) rfl (le_big (ptT_len s hb0))).mono ?_)
  rintro e w10 ⟨rfl, b10⟩
  have t10 := t9.trans (b10.mono t9.size)
  clear lv2 cv2_0 cv2_1
  clear lv4 cv4_0 cv4_1
  clear lv9 cv9_0 cv9_1
  have og1_10 := own_keep og1_9 b10 (Nat.le_refl _)
  clear og1_9
  have og3_10 := own_keep og3_9 b10 (Nat.le_refl _)
  clear og3_9
  have og8_10 := own_keep og8_9 b10 (Nat.le_refl _)
  clear og8_9
  have xv2_10 := XV2_9.out.below b10 XV2_9.out.lt
  clear XV2_9
  have xv4_10 := XV4_9.out.below b10 XV4_9.out.lt
  clear XV4_9
  have xv9_10 := XV9_9.out.below b10 XV9_9.out.lt
  clear XV9_9
  have cv2_0 : w10.cell? ⟨w1.heap.size, 0, none⟩ = some (.int .i64 (ptL s)) := by rw [xv2_10.cell]; rfl
  have cv2_1 : w10.cell? ⟨w1.heap.size, 1, none⟩ = some (.slice B1 ((ptT s).length) d1) := by rw [xv2_10.cell]; rfl
  have lv2 := xv2_10.lt
  have XV2_10 := Lib.hid xv2_10
  clear xv2_10
  have cv4_0 : w10.cell? ⟨w3.heap.size, 0, none⟩ = some (.int .i64 (ptL s)) := by rw [xv4_10.cell]; rfl
  have cv4_1 : w10.cell? ⟨w3.heap.size, 1, none⟩ = some (.slice B3 ((ptT s).length) d3) := by rw [xv4_10.cell]; rfl
  have lv4 := xv4_10.lt
  have XV4_10 := Lib.hid xv4_10
  clear xv4_10
  have cv9_0 : w10.cell? ⟨w8.heap.size, 0, none⟩ = some (.int .i64 (ptL s)) := by rw [xv9_10.cell]; rfl
  have cv9_1 : w10.cell? ⟨w8.heap.size, 1, none⟩ = some (.slice B8 ((ptT s).length) d8) := by rw [xv9_10.cell]; rfl
  have lv9 := xv9_10.lt
  have XV9_10 := Lib.hid xv9_10
  clear xv9_10
  go_wp2_with fail
  (with_reducible refine (heldTag_k (ptL s) B3 ((ptT s).length) d3 1 _ (Rd.of_own og3_10) (by omega) (by have := (ptT_len s hb0); omega)).mono ?_)
  rintro e w11 ⟨rfl, b11⟩
  have t11 := t10.trans (b11.mono t10.size)
  clear lv2 cv2_0 cv2_1
  clear lv4 cv4_0 cv4_1
  clear lv9 cv9_0 cv9_1
  have og1_11 := own_keep og1_10 b11 (Nat.le_refl _)
  clear og1_10
  have og3_11 := own_keep og3_10 b11 (Nat.le_refl _)
  clear og3_10
  have og8_11 := own_keep og8_10 b11 (Nat.le_refl _)
  clear og8_10
  have xv2_11 := XV2_10.out.below b11 XV2_10.out.lt
  clear XV2_10
  have xv4_11 := XV4_10.out.below b11 XV4_10.out.lt
  clear XV4_10
  have xv9_11 := XV9_10.out.below b11 XV9_10.out.lt
  clear XV9_10
  have cv2_0 : w11.cell? ⟨w1.heap.size, 0, none⟩ = some (.int .i64 (ptL s)) := by rw [xv2_11.cell]; rfl
  have cv2_1 : w11.cell? ⟨w1.heap.size, 1, none⟩ = some (.slice B1 ((ptT s).length) d1) := by rw [xv2_11.cell]; rfl
  have lv2 := xv2_11.lt
  have XV2_11 := Lib.hid xv2_11
  clear xv2_11
  have cv4_0 : w11.cell? ⟨w3.heap.size, 0, none⟩ = some (.int .i64 (ptL s)) := by rw [xv4_11.cell]; rfl
  have cv4_1 : w11.cell? ⟨w3.heap.size, 1, none⟩ = some (.slice B3 ((ptT s).length) d3) := by rw [xv4_11.cell]; rfl
  have lv4 := xv4_11.lt
  have XV4_11 := Lib.hid xv4_11
  clear xv4_11
  have cv9_0 : w11.cell? ⟨w8.heap.size, 0, none⟩ = some (.int .i64 (ptL s)) := by rw [xv9_11.cell]; rfl
  have cv9_1 : w11.cell? ⟨w8.heap.size, 1, none⟩ = some (.slice B8 ((ptT s).length) d8) := by rw [xv9_11.cell]; rfl
  have lv9 := xv9_11.lt
  have XV9_11 := Lib.hid xv9_11
  clear xv9_11
  go_wp2_with fail
  go_ret
  exact ⟨rfl, t11⟩
  
set_option maxRecDepth 100000 in
theorem lifted_ParseTag (os : Os) (started : os.Started) (H : Type) (enc : TypeId × Value → H) :
    ReturnsInHanded {} Tryd.checked os 5 .any (fun w args => (Rows.fnExactParseTagSpec.pre enc Tryd.prog Tryd.f5 Rows.fnExactParseTagRow.domain false w args ∧ laidMetH Tryd.prog Rows.fnExactParseTagRow.laid w) ∧ sizedMet enc Tryd.prog Tryd.f5 (OpenSpec.ofChange Rows.fnExactParseTagSpec) false w args) (Rows.fnExactParseTagSpec.post enc Tryd.prog Tryd.f5 false true false false) := by
  refine handed_and_shaped (C := Tryd.checked) (X := fun w _ => laidMetH Tryd.prog Rows.fnExactParseTagRow.laid w) (fun _ _ _ hh h => h.of_heap hh) own_knob started (by kernel_rfl) Tryd.func5
    (ChangeSpec.witness_shaped (enc := enc) (C := Tryd.checked) (os := os) (X := fun w _ => laidMetH Tryd.prog Rows.fnExactParseTagRow.laid w) false (World.laidAll Tryd.prog os Rows.fnExactParseTagRow.laid) #[.string ⟨#[]⟩] 8 (World.laidAll_os _ _ _) (World.shaped_of_ZipB (by kernel_rfl) (by kernel_rfl)) (by kernel_rfl) (by kernel_rfl) (by kernel_rfl) (by rw [MakeChecks.laidMetH_plain _ _ _ (by kernel_rfl)]; exact laidMet_laidAll _ (by kernel_rfl) (by kernel_rfl))) ?_
  intro W base args ds gs before hval0 hW _ _ hL hsh _
  have hval : ∀ (j : Nat) t v, Tryd.f5.params[j]? = some t → args[j]? = some v → Value.okWide Tryd.prog W .any base t v := hval0
  have hW' := hW
  obtain ⟨p, q, hA0, hV, rfl, hfz, hnd⟩ := hW
  have hA : DataW.TrodAll enc Tryd.prog W 0 (fun _ => true) true Tryd.f5.params.toList args.toList ds p := hA0
  rw [Tryd.params5] at hA hval
  obtain ⟨v0, vs0, d0, ds0, p0, q0, hargs, rfl, rfl, h0, r0⟩ := trodAll_cons hA
  obtain ⟨rfl, rfl, rfl⟩ := trodAll_nil r0
  obtain rfl : args = #[v0] := by cases args; simp_all
  obtain ⟨rfl, rfl⟩ := trodVars_none hV
  have k0 := h0
  have lt0 : ∀ x ∈ p0, x.block < W.heap.size := by obtain ⟨m, hm⟩ := k0; exact DataW.trod_lt m _ _ _ hm
  obtain ⟨a0, rfl, rfl, rfl, wf0⟩ := Go.ChangeMaps.open_string Tryd.underlying9 (hval 0 9 v0 rfl rfl) h0
  clear hA0 hval0
  refine (law_ParseTag W a0 wf0 (laidW_of hL hsh)).mono fun e W' ⟨he, bel⟩ => ?_
  subst he
  exact ⟨_, rfl, _, _, _, [], _, [], hW', trodAll_mk1 (shut_bool Tryd.underlying4 _), (trodAll_cons_mk (Below.trod laid_out (by kernel_rfl) (of_decide_eq_true (by kernel_rfl)) k0 bel lt0) trodAll_mk0), rfl, bel.frame _, fun h => by cases h⟩

theorem ParseTag_row : Rows.FnExactParseTagSaid :=
  OpenClaim.holds_of_wide 5 Tryd.f5 rfl rfl rfl rfl rfl rfl rfl ⟨rfl, rfl, rfl, rfl, rfl⟩ rfl rfl rfl rfl rfl (by kernel_rfl) Tryd.func5 (by kernel_rfl)
    (of_decide_eq_true (by kernel_rfl)) (by unfold Func.isWrapper; first | (rw [if_pos (by decide +kernel)]; kernel_rfl) | (rw [if_neg (by decide +kernel)]; exact ⟨rfl, rfl⟩))
    (fun os started H enc _ => lifted_ParseTag os started H enc)

/-- The tied card, out of the row and the given tie. -/
theorem ParseTag_holds : Rows.FnExactParseTagCardSaid :=
  Claim7.holds_tied_plain_at .later [] [.data, .data, .data, .data, .sentinel, .sentinel, .pinned] true Rows.fnExactParseTagCard.stood.harness true
    ParseTag_row (fun _ h => by cases h) (by kernel_rfl) (fun _ h => by cases h) fnExactParseTag_row_tie rfl ⟨rfl, rfl⟩ (by kernel_rfl) rfl
    (fun f fn hf hfn => by
      obtain rfl : f = 5 := Option.some.inj ((show Tryd.prog.funcNamed Rows.fnExactParseTagRow.func = some 5 by kernel_rfl).symm.trans hf) |>.symm
      obtain rfl : fn = Tryd.f5 := (Option.some.inj (Tryd.func5.symm.trans hfn)).symm
      exact ⟨by kernel_rfl, fun j t ht => by
        rw [Tryd.params5] at ht
        have hm : t ∈ [9] := by simpa using Array.mem_of_getElem? ht
        have hall : ([9].all fun u => !Tryd.prog.wantsStandIn u) = true := by kernel_rfl
        exact (show Tryd.prog.wantsStandIn t = false by simpa using List.all_eq_true.1 hall t hm)⟩)
    (by kernel_rfl)


end Go.Proofs.YtgceabbeeobmgaaDoor
