/- Walks over Join and FormatOrders of the program: the same text as the reference's. -/
import Derived.Test.YtgnmfneinnojnaaFmt
import Derived.Test.YtgnmfneinnojnaaShelfP
namespace Go.Proofs.Ytgnmfneinnojnaa
open Go.RowKit Go.Shelf

theorem rd_cellsF {w : World} {g : Nat} {ws : List ByteArray} (h : Rd w (some ⟨g, 0, none⟩) (strs ws)) : ∀ (j : Nat) x, ws[j]? = some x → w.cell? ⟨g, 0 + j, none⟩ = some (.string x) := fun j x hx => by
  have hu : (strs ws)[j]? = some (.string x) := by simp [strs, hx]
  obtain ⟨b, o, e, _, hc⟩ := h (by intro e; rw [e] at hu; cases hu)
  injection e with e
  injection e with e1 e2
  subst e1 e2
  exact hc j _ hu

set_option maxRecDepth 100000 in
set_option maxHeartbeats 1000000 in
theorem implJoin_any (g n c : Nat) (ws : List ByteArray) (w : World) (hc : ∀ (j : Nat) x, ws[j]? = some x → w.cell? ⟨g, 0 + j, none⟩ = some (.string x)) (hn : n = ws.length) (hn0 : 0 < n) (hb : n ≤ 1048576) (hcap : n ≤ c) (hg : g < w.heap.size) (hz : ∀ x ∈ ws, x.size ≤ 2097153) :
    Calls Try.prog 73 #[.slice (some ⟨g, 0, none⟩) n c, .string spc] w (Kept w (.string (jn ws spc))) := by
  subst hn
  have hl := jn_len hz
  have hl2 : (Lib.join (ws.map (·.data.toList)) spc.data.toList).length ≤ 140737488355328 := by omega
  obtain ⟨sp, hspe⟩ : ∃ sp, sp = spc := ⟨_, rfl⟩
  rw [← hspe] at hl2 ⊢
  have Hc := Lib.hid hc
  clear hc
  have Hz := Lib.hid hz
  clear hz
  have Hl2 := Lib.hid hl2
  clear hl2
  have Hspe := Lib.hid hspe
  clear hspe
  clear hl
  go_enter Try.func73, Try.ntmps73
  go_wp2_with fail
  refine (Try.strings_Join g 0 c ws sp w Hc.out hg (by omega) hcap Hl2.out).mono ?_
  rintro e w1 ⟨rfl, b1⟩
  obtain ⟨r, hrr⟩ : ∃ r, r = jn ws sp := ⟨_, rfl⟩
  have hre : (⟨(Lib.join (ws.map (·.data.toList)) sp.data.toList).toArray⟩ : ByteArray) = r := hrr.symm
  rw [hre, ← hrr]
  have Hre := Lib.hid hre
  clear hre
  have Hrr := Lib.hid hrr
  clear hrr
  go_wp2_with fail
  go_ret
  exact ⟨by first | rfl | (rw [← Hrr.out]; rfl) | (rw [← Hspe.out, ← Hrr.out]; rfl), b1⟩

set_option maxRecDepth 100000 in
set_option maxHeartbeats 2000000 in
theorem implFormatOrders_any (A : Option Addr) (n c : Nat) (xs : List OrderT) (w : World) (hr : Rd w A (cellsOrder xs)) (hn : n = xs.length) (hb : n ≤ 1048576) (hz : ∀ x ∈ xs, x.1.size ≤ 1048576 ∧ x.2.1.size ≤ 1048576) :
    Calls Try.prog 25 #[.slice A n c] w (Kept w (.string (fmtS xs))) := by
  have Hr := Lib.hid hr
  clear hr
  have Hn := Lib.hid hn
  clear hn
  have Hz := Lib.hid hz
  clear hz
  go_enter Try.func25, Try.ntmps25
  by_cases hn0 : n = 0
  · have e1 : fmtS xs = ⟨#[45]⟩ := if_pos (by rw [← Hn.out]; exact hn0)
    rw [e1]
    subst hn0
    clear e1
    go_wp2_with fail
    go_ret
    exact ⟨rfl, Below.refl _ _⟩
  have e1 : fmtS xs = jn (xs.map fmtO) spc := if_neg (by rw [← Hn.out]; exact hn0)
  have hnz : ((n : Int) == 0) = false := by simp; omega
  have E1 := Lib.hid e1
  clear e1
  go_wp2_with fail
  go_loopw [3, 12] (fun v i wr => ∃ (j : Nat) (B : Option Addr) (d : Nat), j ≤ n ∧ v = .slice B j d ∧ i = .int .i64 j ∧ wr.ownsRow w.heap.size 9 1 (.slice B j d) j (strs ((xs.take j).map fmtO)) ∧ Below w.heap.size w wr) (fun _ i _ => n - (intOf i).toNat)
  case atStart => exact ⟨0, none, 0, Nat.zero_le _, rfl, rfl, World.ownsRow_nil _ _ _ _, Below.refl _ _⟩
  case round =>
    skip
    obtain ⟨j, B, d, hj, rfl, rfl, hown, hW⟩ := hrel
    by_cases hlt : j < n
    · have hj2 : j < xs.length := by rw [← Hn.out]; exact hlt
      obtain ⟨b, o, rfl, hbl, p0, p1, p2⟩ := rd_Order (Hr.out.keep hW) hj2
      obtain ⟨⟨v0, v1, v2⟩, hv⟩ : ∃ v, v = xs[j] := ⟨_, rfl⟩
      have hzz := Hz.out _ (List.getElem_mem hj2)
      rw [← hv] at p0 p1 p2 hzz
      dsimp only at p0 p1 p2 hzz
      have htk : strs ((xs.take (j + 1)).map fmtO) = strs ((xs.take j).map fmtO) ++ [.string ((dot v0 ++ markO v2) ++ dot v1)] := by
        rw [List.take_succ_eq_append_getElem hj2, List.map_append, ← hv]
        simp [strs, fmtO]
      have d0 := dot_size hzz.1 (by omega)
      have d1 := dot_size hzz.2 (by omega)
      have dm := mark_size v2
      have d2 : (dot v0 ++ markO v2).size ≤ 1048577 := by rw [ByteArray.size_append, dm]; omega
      have hWa := hW.alloc hW.size (.cells #[.string v0, .string v1, .bool v2] 95)
      have hoa := own_keep hown ((Below.refl _ wr).alloc (Nat.le_refl _) (.cells #[.string v0, .string v1, .bool v2] 95)) (Nat.le_refl _)
      have hX := Bk.new wr 95 #[.string v0, .string v1, .bool v2]
      have hod := own_drewF hoa
      have hwd := hWa.drew
      have hws := hwd.size
      have k0 : (World.drew (World.alloc wr (.cells #[.string v0, .string v1, .bool v2] 95))).cell? ⟨wr.heap.size, 0, none⟩ = some (.string v0) := by rw [hX.drew.cell]; rfl
      have k1 : (World.drew (World.alloc wr (.cells #[.string v0, .string v1, .bool v2] 95))).cell? ⟨wr.heap.size, 1, none⟩ = some (.string v1) := by rw [hX.drew.cell]; rfl
      clear hown hoa hW hWa
      obtain ⟨a0, ha0⟩ : ∃ a, a = v0 := ⟨_, rfl⟩
      obtain ⟨a1, ha1⟩ : ∃ a, a = v1 := ⟨_, rfl⟩
      rw [← ha0] at p0 k0 htk d0 d2 hX hod hwd hws k1
      rw [← ha1] at p1 k0 k1 htk d1 hX hod hwd hws
      subst ha0 ha1
      cases v2
      · rw [show markO false = (⟨#[62]⟩ : ByteArray) from rfl] at htk d2 dm
        have g1 : ¬ 9223372036854775807 < (dot a0).size + 1 := by omega
        have g2 : ¬ 9223372036854775807 < (dot a0 ++ (⟨#[62]⟩ : ByteArray)).size + (dot a1).size := by omega
        have g3 : ¬ 9223372036854775807 < (dot a0).size + 1 + (dot a1).size := by omega
        have Hv := Lib.hid hv
        clear hv
        have Htk := Lib.hid htk
        clear htk
        have HX := Lib.hid hX
        clear hX
        have Hwd := Lib.hid hwd
        clear hwd
        go_wp2_with fail
        go_region_law (first | (refine step_app1 _ (World.drew (World.alloc wr (.cells #[.string a0, .string a1, .bool false] 95))) rfl _ _ 94 rfl w.heap.size 9 1 16 _ Try.underlying94 info_str rfl (by omega) _ _ _ _ rfl rfl (by simp [go_sem]) hod rfl (one_cell_strF _) (by omega) (by unfold maxLen; omega) (by omega) ?_; intro A5 c5 w5 hO5 hW5) | (go_simp; ((with_reducible refine (implDot_any a0 _).mono ?_); rintro e y1 ⟨rfl, rfl⟩)) | (go_simp; ((with_reducible refine (implDot_any a1 _).mono ?_); rintro e y2 ⟨rfl, rfl⟩)))
        all_goals
          have hO6 : w5.ownsRow w.heap.size 9 1 (.slice A5 (j + 1) c5) (j + 1) (strs ((xs.take (j + 1)).map fmtO)) := by rw [Htk.out]; exact hO5
          clear hO5 hod
          go_wp2_with fail
          go_roundw
          case rel => exact ⟨j + 1, A5, c5, by omega, rfl, by go_num, hO6, Hwd.out.trans hW5⟩
          case measure => simp [intOf] <;> omega

      · rw [show markO true = (⟨#[33]⟩ : ByteArray) from rfl] at htk d2 dm
        have g1 : ¬ 9223372036854775807 < (dot a0).size + 1 := by omega
        have g2 : ¬ 9223372036854775807 < (dot a0 ++ (⟨#[33]⟩ : ByteArray)).size + (dot a1).size := by omega
        have g3 : ¬ 9223372036854775807 < (dot a0).size + 1 + (dot a1).size := by omega
        have Hv := Lib.hid hv
        clear hv
        have Htk := Lib.hid htk
        clear htk
        have HX := Lib.hid hX
        clear hX
        have Hwd := Lib.hid hwd
        clear hwd
        go_wp2_with fail
        go_region_law (first | (refine step_app1 _ (World.drew (World.alloc wr (.cells #[.string a0, .string a1, .bool true] 95))) rfl _ _ 94 rfl w.heap.size 9 1 16 _ Try.underlying94 info_str rfl (by omega) _ _ _ _ rfl rfl (by simp [go_sem]) hod rfl (one_cell_strF _) (by omega) (by unfold maxLen; omega) (by omega) ?_; intro A5 c5 w5 hO5 hW5) | (go_simp; ((with_reducible refine (implDot_any a0 _).mono ?_); rintro e y1 ⟨rfl, rfl⟩)) | (go_simp; ((with_reducible refine (implDot_any a1 _).mono ?_); rintro e y2 ⟨rfl, rfl⟩)))
        all_goals
          have hO6 : w5.ownsRow w.heap.size 9 1 (.slice A5 (j + 1) c5) (j + 1) (strs ((xs.take (j + 1)).map fmtO)) := by rw [Htk.out]; exact hO5
          clear hO5 hod
          go_wp2_with fail
          go_roundw
          case rel => exact ⟨j + 1, A5, c5, by omega, rfl, by go_num, hO6, Hwd.out.trans hW5⟩
          case measure => simp [intOf] <;> omega

    · have : j = n := by omega
      subst this
      have hT : xs.take j = xs := List.take_of_length_le (by rw [← Hn.out]; exact Nat.le_refl _)
      rw [hT] at hown
      have hjl : j = (xs.map fmtO).length := by rw [List.length_map]; exact Hn.out
      have hall : ∀ x ∈ xs.map fmtO, x.size ≤ 2097153 := fun x hx => by
        obtain ⟨o, ho, rfl⟩ := List.mem_map.1 hx
        exact fmtO_size (Hz.out o ho).1 (Hz.out o ho).2
      obtain ⟨g, hg, -, hgl⟩ := own_some hown (by omega)
      subst hg
      have hcap := own_capF hown
      have hcl := rd_cellsF (Rd.of_own hown)
      have Hown := Lib.hid hown
      clear hown
      have Hall := Lib.hid hall
      clear hall
      have Hjl := Lib.hid hjl
      clear hjl
      go_wp2_with fail
      refine (implJoin_any g j d (xs.map fmtO) _ hcl Hjl.out (by omega) hb hcap hgl Hall.out).mono ?_
      rintro e w2 ⟨rfl, b2⟩
      go_wp2_with fail
      go_ret
      rw [E1.out]
      exact ⟨rfl, hW.trans (b2.mono hW.size)⟩

end Go.Proofs.Ytgnmfneinnojnaa
