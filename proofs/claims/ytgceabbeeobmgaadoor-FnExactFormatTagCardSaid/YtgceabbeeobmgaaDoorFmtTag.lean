/- Walks over FormatTag of the program. -/
import Derived.Test.YtgceabbeeobmgaaDoorFmtTagS
import Derived.Test.YtgceabbeeobmgaaDoorFmtI
namespace Go.Proofs.YtgceabbeeobmgaaDoor
open Go.RowKit Go.Shelf

set_option maxRecDepth 100000 in
set_option maxHeartbeats 1000000 in
theorem implDigit_any (x : Int) (w : World) (h0 : 1 ≤ x) (h9 : x ≤ 4) : Calls Tryd.prog 45 #[.int .i64 x] w (Kept w (.string (dig x))) := by
  have hc : Calls Tryd.prog 70 #[.int .i64 x] w fun e w' => e = .returned (.string (dig x)) ∧ w' = w := by
    obtain ⟨i, rfl⟩ : ∃ i : Nat, x = i := ⟨x.toNat, by omega⟩
    refine (Tryd.strconv_Itoa_small i (by omega) w).mono fun e w' ⟨he, hw⟩ => ⟨?_, hw⟩
    rw [he]
    have : i = 1 ∨ i = 2 ∨ i = 3 ∨ i = 4 := by omega
    rcases this with rfl | rfl | rfl | rfl
    · rw [show Lib.decDigits 1 = [49] by decide +kernel]; rfl
    · rw [show Lib.decDigits 2 = [50] by decide +kernel]; rfl
    · rw [show Lib.decDigits 3 = [51] by decide +kernel]; rfl
    · rw [show Lib.decDigits 4 = [52] by decide +kernel]; rfl
  have Hc := Lib.hid hc
  clear hc
  go_enter Tryd.func45, Tryd.ntmps45
  go_wp2_with fail
  refine Hc.out.mono ?_
  rintro e w1 ⟨rfl, rfl⟩
  go_wp2_with fail
  go_ret
  exact ⟨rfl, Below.refl _ _⟩

set_option maxRecDepth 100000 in
set_option maxHeartbeats 2000000 in
theorem implFormatTag_any (l : Int) (A : Option Addr) (n c : Nat) (xs : List ByteArray) (w : World) (hr : Rd w A (strs xs)) (hn : n = xs.length) (hb : n ≤ 1048576) (hz : ∀ x ∈ xs, x.size ≤ 1048576) :
    Calls Tryd.prog 20 #[.agg #[.int .i64 l, .slice A n c]] w (Kept w (.string (fmtT l xs))) := by
  have hW0 : Below w.heap.size w (w.alloc (.cells #[.int .i64 l, .slice A n c] 42)) := (Below.refl _ _).alloc (Nat.le_refl _) _
  have hS0 := Bk.new w 42 #[.int .i64 l, .slice A n c]
  have Hr := Lib.hid hr
  clear hr
  have Hn := Lib.hid hn
  clear hn
  have Hz := Lib.hid hz
  clear hz
  go_enter Tryd.func20, Tryd.ntmps20
  go_wp2_with fail
  with_reducible refine (implTagOk_any l A n c xs _ (Hr.out.keep hW0) Hn.out hb Hz.out).mono ?_
  rintro e w1 ⟨rfl, b1⟩
  have hW1 := hW0.trans (b1.mono hW0.size)
  have hS1 := hS0.below b1 hS0.lt
  have s0_1 : w1.cell? ⟨w.heap.size, 0, none⟩ = some (.int .i64 l) := by rw [hS1.cell]; rfl
  have s1_1 : w1.cell? ⟨w.heap.size, 1, none⟩ = some (.slice A n c) := by rw [hS1.cell]; rfl
  have sl_1 := hS1.lt
  clear b1
  obtain ⟨r1, hrr⟩ : ∃ r', r' = (tagOk l xs) := ⟨_, rfl⟩
  rw [← hrr]
  have H1 := Lib.hid hrr
  clear hrr
  cases r1
  · have e1 : fmtT l xs = ⟨#[]⟩ := by rw [fmtT, ← H1.out]; rfl
    have E1 := Lib.hid e1
    clear e1
    go_wp2_with fail
    go_ret
    rw [E1.out]
    exact ⟨rfl, hW1⟩
  have e1 : fmtT l xs = jn (tagW l xs) spc := by rw [fmtT, ← H1.out]; rfl
  obtain ⟨hl1, hl4, hx1, hx4, hxw⟩ := tagOk_out H1.out.symm
  have hn4 : n ≤ 4 := by rw [Hn.out]; exact hx4
  have E1 := Lib.hid e1
  clear e1
  have Hxw := Lib.hid hxw
  clear hxw
  go_wp2_with fail
  with_reducible refine (implDigit_any l _ (by omega) (by omega)).mono ?_
  rintro e w2 ⟨rfl, b2⟩
  have hW2 := hW1.trans (b2.mono hW1.size)
  have hS2 := hS1.below b2 hS1.lt
  have s0_2 : w2.cell? ⟨w.heap.size, 0, none⟩ = some (.int .i64 l) := by rw [hS2.cell]; rfl
  have s1_2 : w2.cell? ⟨w.heap.size, 1, none⟩ = some (.slice A n c) := by rw [hS2.cell]; rfl
  have sl_2 := hS2.lt
  clear b2
  obtain ⟨ds, hds⟩ : ∃ d, d = dig l := ⟨_, rfl⟩
  have hdz : ds.size = 1 := by rw [hds]; exact dig_size l
  rw [← hds]
  have hW3 := hW2.alloc hW2.size (.cells #[.string ds] 9)
  have hS3 := hS2.alloc (.cells #[.string ds] 9)
  have hO0 := own_mono (b' := w.heap.size) (own_of_bk (base := w2.heap.size) (m := 1) (n := 1) (Bk.new w2 9 #[.string ds]) (Nat.le_refl _) rfl (by unfold maxLen; omega)) hW2.size
  have s0_3 : (w2.alloc (.cells #[.string ds] 9)).cell? ⟨w.heap.size, 0, none⟩ = some (.int .i64 l) := by rw [hS3.cell]; rfl
  have s1_3 : (w2.alloc (.cells #[.string ds] 9)).cell? ⟨w.heap.size, 1, none⟩ = some (.slice A n c) := by rw [hS3.cell]; rfl
  have hR3 := Hr.out.keep hW3
  have Hds := Lib.hid hds
  clear hds
  have HR3 := Lib.hid hR3
  clear hR3
  have HO0 := Lib.hid hO0
  clear hO0
  have HW3 := Lib.hid hW3
  clear hW3
  go_wp2_with fail
  go_loopw [3, 16] (fun v i wr => ∃ (j : Nat) (B : Option Addr) (d : Nat), j ≤ n ∧ v = .slice B (j + 1) d ∧ i = .int .i64 j ∧ wr.ownsRow w.heap.size 9 1 (.slice B (j + 1) d) (j + 1) (strs (ds :: (xs.take j).map dot)) ∧ Below w.heap.size w wr) (fun _ i _ => n - (intOf i).toNat)
  case atStart => exact ⟨0, _, 1, Nat.zero_le _, rfl, rfl, HO0.out, HW3.out⟩
  case round =>
    clear s0_3 s1_3 HO0 HW3
    obtain ⟨j, B, d, hj, rfl, rfl, hown, hW⟩ := hrel
    by_cases hlt : j < n
    · have hj2 : j < xs.length := by rw [← Hn.out]; exact hlt
      obtain ⟨b, o, rfl, hbl, p0⟩ := rd_StrG (Hr.out.keep hW) hj2
      obtain ⟨x, hx⟩ : ∃ x, x = xs[j] := ⟨_, rfl⟩
      have hxz : x.size ≤ 8 := by rw [hx]; exact (Hxw.out _ (List.getElem_mem hj2)).2
      obtain ⟨dx, hdx⟩ : ∃ d, d = dot x := ⟨_, rfl⟩
      have htk : strs (ds :: (xs.take (j + 1)).map dot) = strs (ds :: (xs.take j).map dot) ++ [.string dx] := by
        rw [List.take_succ_eq_append_getElem hj2, List.map_append, ← hx, hdx]
        simp [strs]
      rw [← hx] at p0
      have hD : ∀ W, Calls Tryd.prog 46 #[.string x] W (fun e w' => e = .returned (.string dx) ∧ W = w') := fun W => by rw [hdx]; exact (implDot_any x W).mono fun e w' h => ⟨h.1, h.2.symm⟩
      have hws := hW.size
      have Hx := Lib.hid hx
      clear hx
      have Hdx := Lib.hid hdx
      clear hdx
      have HD := Lib.hid hD
      clear hD
      have Htk := Lib.hid htk
      clear htk
      have HW := Lib.hid hW
      clear hW
      go_wp2_with fail
      refine (HD.out _).mono ?_
      rintro e w' ⟨rfl, rfl⟩
      go_wp2_with (at_builtin; go_loud (refine wpList_app5 _ wr _ rfl rfl _ _ 29 rfl w.heap.size 9 1 16 _ Tryd.underlying29 info_str rfl (by omega) (.slice B (j + 1) d) (j + 1) _ _ rfl rfl rfl hown rfl (one_cell_strF _) (by omega) (by unfold maxLen; omega) hws ?_); intro g5 c5 w5 hO5 hV5 hG5 hat5)
      have hO6 : w5.ownsRow w.heap.size 9 1 (.slice (some ⟨g5, 0, none⟩) (j + 1 + 1) c5) (j + 1 + 1) (strs (ds :: (xs.take (j + 1)).map dot)) := by rw [Htk.out]; exact hO5
      have hW6 := HW.out.trans hV5
      clear hO5 hG5 hat5 hown hV5
      go_wp2_with fail
      go_roundw
      case rel => exact ⟨j + 1, _, c5, by omega, rfl, by go_num, hO6, hW6⟩
      case measure => simp [intOf] <;> omega
    · have : j = n := by omega
      subst this
      have hT : xs.take j = xs := List.take_of_length_le (by rw [← Hn.out]; exact Nat.le_refl _)
      rw [hT] at hown
      have hjl : j + 1 = (ds :: xs.map dot).length := by rw [List.length_cons, List.length_map, Hn.out]
      have hall : ∀ x ∈ ds :: xs.map dot, x.size ≤ 2097153 := fun x hx => by
        rcases List.mem_cons.1 hx with rfl | hx
        · omega
        · obtain ⟨o, ho, rfl⟩ := List.mem_map.1 hx
          have := dot_size (Hxw.out o ho).2 (by omega)
          omega
      obtain ⟨g, hg, -, hgl⟩ := own_some hown (by omega)
      subst hg
      have hcap := own_capF hown
      have hcl := rd_cellsF (Rd.of_own hown)
      have Hown := Lib.hid hown
      clear hown
      have Hall := Lib.hid hall
      clear hall
      have Hjl := Lib.hid hjl
      clear hjl
      go_wp2_with fail
      refine (implJoin_any g (j + 1) d (ds :: xs.map dot) _ hcl Hjl.out (by omega) (by omega) hcap hgl Hall.out).mono ?_
      rintro e w4 ⟨rfl, b4⟩
      go_wp2_with fail
      go_ret
      rw [E1.out]
      exact ⟨by rw [Hds.out]; rfl, hW.trans (b4.mono hW.size)⟩

end Go.Proofs.YtgceabbeeobmgaaDoor
