/- Walk over ParseTag of the reference. -/




import Derived.Test.YtgceabbeeobmgaaDoorPtP
import Derived.Test.YtgceabbeeobmgaaDoorSplA
import Derived.Test.YtgceabbeeobmgaaDoorPiS
import Derived.Test.YtgceabbeeobmgaaDoorApp2
namespace Go.Proofs.YtgceabbeeobmgaaDoor

open Go.RowKit Go.Shelf

theorem strs_snocF (xs : List ByteArray) (x : ByteArray) : strs (xs ++ [x]) = strs xs ++ [.string x] := by simp [strs]
theorem rd_cellsP {w : World} {g : Nat} {ws : List ByteArray} (h : Rd w (some ⟨g, 0, none⟩) (strs ws)) : ∀ (j : Nat) x, ws[j]? = some x → w.cell? ⟨g, 0 + j, none⟩ = some (.string x) := fun j x hx => by
  have hu : (strs ws)[j]? = some (.string x) := by simp [strs, hx]
  obtain ⟨b, o, e, _, hc⟩ := h (by intro e; rw [e] at hu; cases hu)
  injection e with e
  injection e with e1 e2
  subst e1 e2
  exact hc j _ hu
theorem Rd.keep2 {w w' : World} {g b : Nat} {xs : List Value} (h : Rd w (some ⟨g, 0, none⟩) xs) (hb : Below b w w') (hg : g < b) : Rd w' (some ⟨g, 0, none⟩) xs := fun hn => by
  obtain ⟨b2, off, e, hl, hc⟩ := h hn
  injection e with e'
  injection e' with e1 e2
  subst e1 e2
  exact ⟨g, 0, rfl, Nat.lt_of_lt_of_le hl hb.size, fun j u hu => (hb.cell (p := ⟨g, 0 + j, none⟩) hg).trans (hc j u hu)⟩
theorem Rd.far_ne {w : World} {g : Nat} {xs : List Value} (h : Rd w (some ⟨g, 0, none⟩) xs) {p : Addr} (hp : g ≠ p.block) (u : Value) : Rd (w.setCell p u) (some ⟨g, 0, none⟩) xs := fun hn => by
  obtain ⟨b2, off, e, hl, hc⟩ := h hn
  injection e with e'
  injection e' with e1 e2
  subst e1 e2
  exact ⟨g, 0, rfl, by simpa using hl, fun j v hv => (World.cell?_of_block (w := w) (a := ⟨g, 0 + j, none⟩) (Below.heap_setCell w p u g hp)).trans (hc j v hv)⟩

set_option maxRecDepth 100000 in
set_option maxHeartbeats 4000000 in
theorem specParseTag0_any (s : ByteArray) (w : World) (hs : s.size ≤ 1048576) :
    Calls Tryd.prog 22 #[.string s] w (MadeTagB w (ptL s) (ptT s).length (ptT s) (ptOk s)) := by
  have hW0 : Below w.heap.size w (w.alloc (.cells #[.int .i64 0, .slice none 0 0] 42)) := (Below.refl _ _).alloc (Nat.le_refl _) _
  have hR0 := Bk.new w 42 #[.int .i64 0, .slice none 0 0]
  go_enter Tryd.func22, Tryd.ntmps22
  go_wp2_with fail
  refine (specSplit_any s _ hs).mono ?_
  rintro e w1 ⟨B, d, rfl, o1, b1⟩
  have hR1 := hR0.below b1 hR0.lt
  have hW1 := hW0.trans (b1.mono hW0.size)
  have hz1 := splW_ne s
  have hzs := splW_len s
  have hXl := ptX_len s
  obtain ⟨z, hz⟩ : ∃ z, z = (splW s).length := ⟨_, rfl⟩
  rw [← hz] at o1 hz1 hzs hXl ⊢
  have o1z := own_mono (b' := w.heap.size) o1 hW0.size
  obtain ⟨g, rfl, hg1, hg2⟩ := own_some o1z (by omega)
  have hcap := own_capF o1
  have hrd := Rd.of_own o1
  have k0 : w1.cell? ⟨g, 0, none⟩ = some (.string (ptU s)) := by
    have := rd_cellsP hrd 0 _ (ptU_get s)
    simpa using this
  obtain ⟨u, hu⟩ : ∃ u, u = ptU s := ⟨_, rfl⟩
  have huz : u.size ≤ 1048576 := by (have := ptU_size s); rw [← hu] at this; omega
  rw [← hu] at k0
  clear hR0 hW0 b1 o1 o1z
  have HR1 := Lib.hid hR1
  clear hR1
  have HW1 := Lib.hid hW1
  clear hW1
  have Hrd := Lib.hid hrd
  clear hrd
  have Hu := Lib.hid hu
  clear hu
  have Hz := Lib.hid hz
  clear hz
  go_wp2_with fail
  with_reducible refine (specParseInt_any u _ huz).mono ?_
  rintro e w2 ⟨n, ok, rfl, hP, hn0, hn1, b2⟩
  rw [Hu.out] at hP
  have hR2 := HR1.out.below b2 HR1.out.lt
  have hW2 := HW1.out.trans (b2.mono HW1.out.size)
  have hrd2 := Hrd.out.keep b2
  have q0 : w2.cell? ⟨w.heap.size, 0, none⟩ = some (.int .i64 0) := by rw [hR2.cell]; rfl
  have q1 : w2.cell? ⟨w.heap.size, 1, none⟩ = some (.slice none 0 0) := by rw [hR2.cell]; rfl
  have f0 := hR2.free 0
  have f1 := hR2.free 1
  have rl := hR2.lt
  clear HR1 HW1 Hrd k0
  cases ok
  · have e0 : ptOk s = false := pt_no1 hP
    have e1 : ptL s = 0 := by rw [ptL, e0]; rfl
    have e2 : ptT s = [] := by rw [ptT, e0]; rfl
    have E0 := Lib.hid e0
    clear e0
    have E1 := Lib.hid e1
    clear e1
    have E2 := Lib.hid e2
    clear e2
    have HP := Lib.hid hP
    clear hP
    have Hrd2 := Lib.hid hrd2
    clear hrd2
    have HR2 := Lib.hid hR2
    clear hR2
    go_wp2_with fail
    refine bodyPost_ret (v := .tuple #[.agg #[.int .i64 0, .slice none 0 0], .bool false]) (by simp [results, Tryd.results22, go_sem, q0, q1]) rfl ?_
    rw [E1.out, E2.out, E0.out]
    refine ⟨none, 0, rfl, World.ownsRow_nil _ _ _ _, ?_⟩
    first | exact hW2 | exact (hW2.setCell (by dsimp only; omega) _).setCell (by dsimp only; omega) _
  obtain ⟨T, hT⟩ : ∃ T, T = w2.heap.size := ⟨_, rfl⟩
  have hTl : w.heap.size < T := by omega
  obtain ⟨w3, hw3⟩ : ∃ w3, w3 = w2.alloc (.cells #[.int .i64 n, .slice none 0 0] 42) := ⟨_, rfl⟩
  have hR3 := hR2.alloc (.cells #[.int .i64 n, .slice none 0 0] 42)
  have hW3 := hW2.alloc hW2.size (.cells #[.int .i64 n, .slice none 0 0] 42)
  have hS3 := Bk.new w2 42 #[.int .i64 n, .slice none 0 0]
  have hrd3 := hrd2.keep ((Below.refl _ _).alloc (Nat.le_refl _) (.cells #[.int .i64 n, .slice none 0 0] 42))
  rw [← hw3] at hR3 hW3 hS3 hrd3
  rw [← hT] at hS3
  obtain ⟨k, had, hk⟩ := cut1 (g := g) (d := d) (z := z) hcap
  clear hR2 hW2 hrd2 q0 q1 f0 f1 rl
  have HP := Lib.hid hP
  clear hP
  have HT := Lib.hid hT
  clear hT
  have Hw3 := Lib.hid hw3
  clear hw3
  have HR3 := Lib.hid hR3
  clear hR3
  have HW3 := Lib.hid hW3
  clear hW3
  have HS3 := Lib.hid hS3
  clear hS3
  have Hrd3 := Lib.hid hrd3
  clear hrd3
  have Hk := Lib.hid hk
  clear hk
  go_wp2_with fail
  (try rw [← HT.out, ← Hw3.out])
  go_loopw [27] (fun i wr => ∃ (j : Nat) (C : Option Addr) (e : Nat), j ≤ z - 1 ∧ i = .int .i64 j ∧ Bk wr w.heap.size 42 #[.int .i64 0, .slice none 0 0] ∧ Bk wr T 42 #[.int .i64 n, .slice C j e] ∧ wr.ownsRow (T + 1) 9 1 (.slice C j e) j (strs ((ptX s).take j)) ∧ Rd wr (some ⟨g, 0, none⟩) (strs (splW s)) ∧ g < T ∧ Below w.heap.size w wr) (fun i _ => z - (intOf i).toNat)
  case atStart => exact ⟨0, none, 0, Nat.zero_le _, rfl, HR3.out, HS3.out, World.ownsRow_nil _ _ _ _, Hrd3.out, by (have := HT.out); (have := b2.size); omega, HW3.out⟩
  case round =>
    clear HR3 HW3 HS3 Hrd3 Hw3 HT b2
    obtain ⟨j, C, e, hj, rfl, hR, hS, hown, hrd, hgT, hW⟩ := hrel
    have sl := hS.lt
    by_cases hlt : j < z - 1
    · have hk1 : k = 1 := Hk.out (by omega)
      subst hk1
      have hj2 : j + 1 < (splW s).length := by rw [← Hz.out]; omega
      obtain ⟨x, hx⟩ : ∃ x, x = (splW s)[j + 1] := ⟨_, rfl⟩
      have p0 : wr.cell? ⟨g, 1 + j, none⟩ = some (.string x) := by
        have := rd_cellsP hrd (j + 1) x (by rw [hx, List.getElem?_eq_getElem hj2])
        rw [Nat.add_comm 1 j]
        simpa using this
      have hjX : j < (ptX s).length := by omega
      have hxX : (ptX s)[j] = undot x := by
        rw [hx]
        simp only [ptX, List.getElem_map, List.getElem_tail]
      have htk : strs ((ptX s).take (j + 1)) = strs ((ptX s).take j) ++ [.string (undot x)] := by
        rw [List.take_succ_eq_append_getElem hjX, hxX, strs_snocF]
      have u1 : wr.cell? ⟨T, 1, none⟩ = some (.slice C j e) := by rw [hS.cell]; rfl
      have hjz : (j : Int) < (z - 1 : Nat) := by omega
      cases hdot : (x.toList == [46])
      · have hun : undot x = x := by rw [undot, hdot]; rfl
        rw [hun] at htk
        have Hx := Lib.hid hx
        clear hx
        have HxX := Lib.hid hxX
        clear hxX
        have Htk := Lib.hid htk
        clear htk
        have Hun := Lib.hid hun
        clear hun
        go_wp2_with (at_builtin; go_loud (refine wpList_app1 _ wr rfl _ _ 29 rfl (T + 1) 9 1 16 _ Tryd.underlying29 info_str rfl (by omega) _ _ _ _ rfl rfl rfl hown rfl (one_cell_strF _) (by omega) (by unfold maxLen; omega) (by omega) ?_); intro A5 c5 w5 hO5 hW5; have hS5 := hS.below hW5 (by omega); have x5 := hS5.cell 1; have f5 := hS5.free 1; have l5 := hS5.lt)
        have hN := (hW.trans (hW5.mono (by omega))).setCell (p := ⟨T, 1, none⟩) (by dsimp only; omega) (.slice A5 (j + 1) c5)
        have hRn := (hR.below hW5 (by omega)).far (p := ⟨T, 1, none⟩) (by dsimp only; omega) (.slice A5 (j + 1) c5)
        have hSn := hS5.put 1 (.slice A5 (j + 1) c5)
        have hon := ownsRow_setCell_below hO5 (a := ⟨T, 1, none⟩) (by simp) (.slice A5 (j + 1) c5)
        have hrdn := (hrd.keep2 hW5 (by omega)).far_ne (p := ⟨T, 1, none⟩) (by dsimp only; omega) (.slice A5 (j + 1) c5)
        have hon2 := hon
        rw [show strs ((ptX s).take j) ++ (#[Value.string x] : Array Value).toList = strs ((ptX s).take (j + 1)) from Htk.out.symm] at hon2
        clear hO5 hon hS5 x5 f5
        go_wp2_with fail
        go_roundw
        case rel => exact ⟨j + 1, A5, c5, by omega, by go_num, hRn, hSn, hon2, hrdn, hgT, hN⟩
        case measure => simp [intOf] <;> omega
      · have hun : undot x = ⟨#[]⟩ := by rw [undot, hdot]; rfl
        rw [hun] at htk
        have Hx := Lib.hid hx
        clear hx
        have HxX := Lib.hid hxX
        clear hxX
        have Htk := Lib.hid htk
        clear htk
        have Hun := Lib.hid hun
        clear hun
        go_wp2_with (at_builtin; go_loud (refine wpList_app1 _ wr rfl _ _ 29 rfl (T + 1) 9 1 16 _ Tryd.underlying29 info_str rfl (by omega) _ _ _ _ rfl rfl rfl hown rfl (one_cell_strF _) (by omega) (by unfold maxLen; omega) (by omega) ?_); intro A5 c5 w5 hO5 hW5; have hS5 := hS.below hW5 (by omega); have x5 := hS5.cell 1; have f5 := hS5.free 1; have l5 := hS5.lt)
        have hN := (hW.trans (hW5.mono (by omega))).setCell (p := ⟨T, 1, none⟩) (by dsimp only; omega) (.slice A5 (j + 1) c5)
        have hRn := (hR.below hW5 (by omega)).far (p := ⟨T, 1, none⟩) (by dsimp only; omega) (.slice A5 (j + 1) c5)
        have hSn := hS5.put 1 (.slice A5 (j + 1) c5)
        have hon := ownsRow_setCell_below hO5 (a := ⟨T, 1, none⟩) (by simp) (.slice A5 (j + 1) c5)
        have hrdn := (hrd.keep2 hW5 (by omega)).far_ne (p := ⟨T, 1, none⟩) (by dsimp only; omega) (.slice A5 (j + 1) c5)
        have hon2 := hon
        rw [show strs ((ptX s).take j) ++ (#[Value.string ⟨#[]⟩] : Array Value).toList = strs ((ptX s).take (j + 1)) from Htk.out.symm] at hon2
        clear hO5 hon hS5 x5 f5
        go_wp2_with fail
        go_roundw
        case rel => exact ⟨j + 1, A5, c5, by omega, by go_num, hRn, hSn, hon2, hrdn, hgT, hN⟩
        case measure => simp [intOf] <;> omega
    · have hjz : j = z - 1 := by omega
      have hjX : j = (ptX s).length := by omega
      have hTk : (ptX s).take j = ptX s := List.take_of_length_le (by omega)
      rw [hTk] at hown
      have hjn : ¬ (j : Int) < (z - 1 : Nat) := by omega
      have l0 : wr.cell? ⟨T, 0, none⟩ = some (.int .i64 n) := by rw [hS.cell]; rfl
      have l1 : wr.cell? ⟨T, 1, none⟩ = some (.slice C j e) := by rw [hS.cell]; rfl
      have hXz : ∀ x ∈ ptX s, x.size ≤ 1048576 := fun x hx => by (have := ptX_size s x hx); omega
      have hrdX := Rd.of_own hown
      have Hjz := Lib.hid hjz
      clear hjz
      have HjX := Lib.hid hjX
      clear hjX
      have HXz := Lib.hid hXz
      clear hXz
      have HrdX := Lib.hid hrdX
      clear hrdX
      have HR := Lib.hid hR
      clear hR
      have HS := Lib.hid hS
      clear hS
      have Hown := Lib.hid hown
      clear hown
      have HW := Lib.hid hW
      clear hW
      go_wp2_with fail
      with_reducible refine (specTagOk_any n C j e (ptX s) _ HrdX.out HjX.out (by omega) HXz.out).mono ?_
      rintro e4 w4 ⟨rfl, b4⟩
      have hR4 := HR.out.below b4 HR.out.lt
      have hS4 := HS.out.below b4 HS.out.lt
      have ho4 := own_keep Hown.out b4 (Nat.le_refl _)
      have hW4 := HW.out.trans (b4.mono HW.out.size)
      have hrd4 := Rd.of_own ho4
      clear HR HS Hown HW HrdX b4 l0 l1
      have l0 : w4.cell? ⟨T, 0, none⟩ = some (.int .i64 n) := by rw [hS4.cell]; rfl
      have l1 : w4.cell? ⟨T, 1, none⟩ = some (.slice C j e) := by rw [hS4.cell]; rfl
      have q0 : w4.cell? ⟨w.heap.size, 0, none⟩ = some (.int .i64 0) := by rw [hR4.cell]; rfl
      have q1 : w4.cell? ⟨w.heap.size, 1, none⟩ = some (.slice none 0 0) := by rw [hR4.cell]; rfl
      have f0 := hR4.free 0
      have f1 := hR4.free 1
      have rl := hR4.lt
      have sl4 := hS4.lt
      obtain ⟨r1, hrr⟩ : ∃ r', r' = (tagOk n (ptX s)) := ⟨_, rfl⟩
      rw [← hrr]
      have H1 := Lib.hid hrr
      clear hrr
      cases r1
      · have e0 : ptOk s = false := pt_no2 HP.out H1.out.symm
        have e1 : ptL s = 0 := by rw [ptL, e0]; rfl
        have e2 : ptT s = [] := by rw [ptT, e0]; rfl
        have E0 := Lib.hid e0
        clear e0
        have E1 := Lib.hid e1
        clear e1
        have E2 := Lib.hid e2
        clear e2
        have HR4 := Lib.hid hR4
        clear hR4
        have HS4 := Lib.hid hS4
        clear hS4
        have Ho4 := Lib.hid ho4
        clear ho4
        have Hrd4 := Lib.hid hrd4
        clear hrd4
        go_wp2_with fail
        refine bodyPost_ret (v := .tuple #[.agg #[.int .i64 0, .slice none 0 0], .bool false]) (by simp [results, Tryd.results22, go_sem, q0, q1]) rfl ?_
        rw [E1.out, E2.out, E0.out]
        refine ⟨none, 0, rfl, World.ownsRow_nil _ _ _ _, ?_⟩
        first | exact hW4 | exact (hW4.setCell (by dsimp only; omega) _).setCell (by dsimp only; omega) _
      have hnV := pt_yes HP.out H1.out.symm
      have hok := pt_is HP.out H1.out.symm
      have HnV := Lib.hid hnV
      clear hnV
      have Hok := Lib.hid hok
      clear hok
      have HR4 := Lib.hid hR4
      clear hR4
      have HS4 := Lib.hid hS4
      clear hS4
      have Ho4 := Lib.hid ho4
      clear ho4
      have HW4 := Lib.hid hW4
      clear hW4
      have Hrd4 := Lib.hid hrd4
      clear hrd4
      go_wp2_with fail
      with_reducible refine (specFormatTag_any n C j e (ptX s) _ Hrd4.out HjX.out (by omega) HXz.out).mono ?_
      rintro e5 w5 ⟨rfl, b5⟩
      have hR5 := HR4.out.below b5 HR4.out.lt
      have hS5 := HS4.out.below b5 HS4.out.lt
      have ho5 := own_keep Ho4.out b5 (Nat.le_refl _)
      have hW5 := HW4.out.trans (b5.mono HW4.out.size)
      clear HR4 HS4 Ho4 HW4 Hrd4 b5 l0 l1 q0 q1 f0 f1 rl sl4
      have l0 : w5.cell? ⟨T, 0, none⟩ = some (.int .i64 n) := by rw [hS5.cell]; rfl
      have l1 : w5.cell? ⟨T, 1, none⟩ = some (.slice C j e) := by rw [hS5.cell]; rfl
      have q0 : w5.cell? ⟨w.heap.size, 0, none⟩ = some (.int .i64 0) := by rw [hR5.cell]; rfl
      have q1 : w5.cell? ⟨w.heap.size, 1, none⟩ = some (.slice none 0 0) := by rw [hR5.cell]; rfl
      have f0 := hR5.free 0
      have f1 := hR5.free 1
      have rl := hR5.lt
      have sl5 := hS5.lt
      obtain ⟨r, hrr⟩ : ∃ r', r' = (fmtT n (ptX s)) := ⟨_, rfl⟩
      rw [← hrr]
      have H2 := Lib.hid hrr
      clear hrr
      cases hru : (r.toList == s.toList)
      · have e0 : ptOk s = false := by rw [Hok.out, ← H2.out]; exact hru
        have e1 : ptL s = 0 := by rw [ptL, e0]; rfl
        have e2 : ptT s = [] := by rw [ptT, e0]; rfl
        have E0 := Lib.hid e0
        clear e0
        have E1 := Lib.hid e1
        clear e1
        have E2 := Lib.hid e2
        clear e2
        have HR5 := Lib.hid hR5
        clear hR5
        have HS5 := Lib.hid hS5
        clear hS5
        have Ho5 := Lib.hid ho5
        clear ho5
        go_wp2_with fail
        refine bodyPost_ret (v := .tuple #[.agg #[.int .i64 0, .slice none 0 0], .bool false]) (by simp [results, Tryd.results22, go_sem, q0, q1]) rfl ?_
        rw [E1.out, E2.out, E0.out]
        refine ⟨none, 0, rfl, World.ownsRow_nil _ _ _ _, ?_⟩
        first | exact hW5 | exact (hW5.setCell (by dsimp only; omega) _).setCell (by dsimp only; omega) _
      · have e0 : ptOk s = true := by rw [Hok.out, ← H2.out]; exact hru
        have e1 : ptL s = n := by rw [ptL, e0]; exact HnV.out.symm
        have e2 : ptT s = ptX s := by rw [ptT, e0]; rfl
        have E0 := Lib.hid e0
        clear e0
        have E1 := Lib.hid e1
        clear e1
        have E2 := Lib.hid e2
        clear e2
        have HS5 := Lib.hid hS5
        clear hS5
        go_wp2_with fail
        have hBn := (hR5.put 0 (.int .i64 n)).put 1 (.slice C j e)
        have y0 := hBn.cell 0
        have y1 := hBn.cell 1
        refine bodyPost_ret (v := .tuple #[.agg #[.int .i64 n, .slice C j e], .bool true]) (by simp [results, Tryd.results22, go_sem, y0, y1]) rfl ?_
        rw [E1.out, E2.out, E0.out, ← HjX.out]
        refine ⟨C, e, rfl, ?_, ?_⟩
        · exact own_mono (ownsRow_setCell_below (ownsRow_setCell_below ho5 (a := ⟨w.heap.size, 0, none⟩) (by dsimp only; omega) _) (a := ⟨w.heap.size, 1, none⟩) (by dsimp only; omega) _) (by omega)
        · exact (hW5.setCell (by dsimp only; omega) _).setCell (by dsimp only; omega) _

end Go.Proofs.YtgceabbeeobmgaaDoor
