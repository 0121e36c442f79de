/- Walk over ParseTag of the program. -/




import Derived.Test.YtgceabbeeobmgaaDoorPtS
import Derived.Test.YtgceabbeeobmgaaDoorPiI
import Derived.Test.YtgceabbeeobmgaaDoorFmtTag
import Derived.Deep.RegionLaw
namespace Go.Proofs.YtgceabbeeobmgaaDoor

open Go.RowKit Go.Shelf

theorem libSplit_any (s : ByteArray) (w : World) (hs : s.size ≤ 1048576) (hL : LaidW w) : Calls Tryd.prog 51 #[.string s, .string ⟨#[32]⟩] w (fun e w' => ∃ z : Nat, z = (splW s).length ∧ e = .returned (.slice (some ⟨w.heap.size, 0, none⟩) z z) ∧ w'.ownsRow w.heap.size 9 1 (.slice (some ⟨w.heap.size, 0, none⟩) z z) z (strs (splW s)) ∧ Below w.heap.size w w') := by
  obtain ⟨⟨m, hm⟩, -⟩ := hL
  refine (Tryd.strings_Split s ⟨#[32]⟩ m w (by omega) hm (by decide)).mono fun e w' ⟨he, hw⟩ => ?_
  rw [splW_count] at he
  rw [splW_lib] at hw
  have hz := splW_len s
  refine ⟨(splW s).length, rfl, he, ?_, ?_⟩
  · rw [hw]
    have := own_of_bk (base := w.heap.size) (m := 1) (n := (splW s).length) (Bk.new w 9 ((splW s).map Value.string).toArray) (Nat.le_refl _) (by simp) (by unfold maxLen; omega)
    simpa [strs] using this
  · rw [hw]
    exact (Below.refl _ _).alloc (Nat.le_refl _) _

set_option maxRecDepth 100000 in
theorem implUndot_any (x : ByteArray) (w : World) : Calls Tryd.prog 53 #[.string x] w (fun e w' => e = .returned (.string (undot x)) ∧ w = w') := by
  cases h : (x.toList == [46])
  · have e1 : undot x = x := by rw [undot, h]; rfl
    have E1 := Lib.hid e1
    clear e1
    go_enter Tryd.func53, Tryd.ntmps53
    go_wp2_with fail
    go_ret
    exact ⟨by rw [E1.out]; rfl, rfl⟩
  · have e1 : undot x = ⟨#[]⟩ := by rw [undot, h]; rfl
    have E1 := Lib.hid e1
    clear e1
    go_enter Tryd.func53, Tryd.ntmps53
    go_wp2_with fail
    go_ret
    exact ⟨by rw [E1.out]; rfl, rfl⟩

theorem pt_empty {s : ByteArray} (h : s.toList.isEmpty = true) : ptOk s = false := by
  have h0 : s.size = 0 := by
    rw [Lib.toList_data, List.isEmpty_iff] at h
    have := bytes_len s
    rw [h] at this
    simpa using this.symm
  have hu := ptU_size s
  rcases digV_out (ptU s) with h1 | ⟨h1, h4, he⟩
  · rw [ptOk, h1, tagOk_zero]; rfl
  · rw [he, dig_size] at hu
    omega
theorem pt_last {s : ByteArray} {n : Int} {ok : Bool} (h : PiOk (ptU s) n ok) (h0 : s.toList.isEmpty = false) : ptOk s = ((fmtT n (ptX s)).toList == s.toList) := by
  cases ht : tagOk n (ptX s)
  · rw [pt_no2 h ht, fmtT_no ht]
    cases hc : ((⟨#[]⟩ : ByteArray).toList == s.toList)
    · rfl
    · have := eq_of_beq hc
      rw [← this, Lib.toList_data] at h0
      exact absurd h0 (by simp)
  · exact pt_is h ht
theorem pt_n {s : ByteArray} {n : Int} {ok : Bool} (h : PiOk (ptU s) n ok) (hk : ptOk s = true) : n = digV (ptU s) := by
  cases ht : tagOk n (ptX s)
  · rw [pt_no2 h ht] at hk; cases hk
  · exact pt_yes h ht

theorem specParseTag_any (s : ByteArray) (w : World) (hs : s.size ≤ 1048576) (_ : LaidW w) :
    Calls Tryd.prog 22 #[.string s] w (MadeTagB w (ptL s) (ptT s).length (ptT s) (ptOk s)) := specParseTag0_any s w hs

set_option maxRecDepth 100000 in
set_option maxHeartbeats 4000000 in
theorem implParseTag_any (s : ByteArray) (w : World) (hs : s.size ≤ 1048576) (hL : LaidW w) :
    Calls Tryd.prog 23 #[.string s] w (MadeTagB w (ptL s) (ptT s).length (ptT s) (ptOk s)) := by
  have hW0 : Below w.heap.size w (w.alloc (.cells #[.int .i64 0, .slice none 0 0] 42)) := (Below.refl _ _).alloc (Nat.le_refl _) _
  have hR0 := Bk.new w 42 #[.int .i64 0, .slice none 0 0]
  have hSp := libSplit_any s _ hs (hL.keep hW0)
  have hws0 : (w.alloc (.cells #[.int .i64 0, .slice none 0 0] 42)).heap.size = w.heap.size + 1 := by simp
  have HSp := Lib.hid hSp
  clear hSp
  have HL := Lib.hid hL
  clear hL
  go_enter Tryd.func23, Tryd.ntmps23
  go_wp2_with fail
  with_reducible refine HSp.out.mono ?_
  rintro e w1 ⟨z, hz, rfl, o1, b1⟩
  rw [hws0] at o1 ⊢
  have hR1 := hR0.below b1 hR0.lt
  have hW1 := hW0.trans (b1.mono hW0.size)
  have hz1 := splW_ne s
  have hzs := splW_len s
  have hXl := ptX_len s
  rw [← hz] at hz1 hzs hXl
  have q0 : w1.cell? ⟨w.heap.size, 0, none⟩ = some (.int .i64 0) := by rw [hR1.cell]; rfl
  have q1 : w1.cell? ⟨w.heap.size, 1, none⟩ = some (.slice none 0 0) := by rw [hR1.cell]; rfl
  have f0 := hR1.free 0
  have f1 := hR1.free 1
  have rl := hR1.lt
  have hg2 := (own_some o1 hz1).choose_spec.2.2
  have hgw : w.heap.size + 1 < w1.heap.size := by
    obtain ⟨g', e1, -, hl⟩ := own_some o1 hz1
    injection e1 with e1
    injection e1 with e1 e2
    omega
  clear hR0 hW0 b1 HSp hg2
  by_cases h5 : z ≤ 5
  rotate_left
  · have e0 : ptOk s = false := by
      cases h : ptOk s
      · rfl
      · unfold ptOk at h
        rw [Bool.and_eq_true] at h
        have := (tagOk_out h.1).2.2.2.1
        omega
    have e1 : ptL s = 0 := by rw [ptL, e0]; rfl
    have e2 : ptT s = [] := by rw [ptT, e0]; rfl
    have h5' : (5 : Int) < (z : Int) := by omega
    have E0 := Lib.hid e0
    clear e0
    have E1 := Lib.hid e1
    clear e1
    have E2 := Lib.hid e2
    clear e2
    have O1 := Lib.hid o1
    clear o1
    have HR1 := Lib.hid hR1
    clear hR1
    have Hz := Lib.hid hz
    clear hz
    go_wp2_with fail
    refine bodyPost_ret (v := .tuple #[.agg #[.int .i64 0, .slice none 0 0], .bool false]) (by simp [results, Tryd.results23, go_sem, q0, q1]) rfl ?_
    rw [E1.out, E2.out, E0.out]
    refine ⟨none, 0, rfl, World.ownsRow_nil _ _ _ _, ?_⟩
    first | exact hW1 | exact (hW1.setCell (by dsimp only; omega) _).setCell (by dsimp only; omega) _
  have h5' : ¬ (5 : Int) < (z : Int) := by omega
  have hrd := Rd.of_own o1
  have k0 : w1.cell? ⟨w.heap.size + 1, 0, none⟩ = some (.string (ptU s)) := by
    have := rd_cellsP hrd 0 _ (ptU_get s)
    simpa using this
  obtain ⟨u, hu⟩ : ∃ u, u = ptU s := ⟨_, rfl⟩
  have huz : u.size ≤ 1048576 := by (have := ptU_size s); rw [← hu] at this; omega
  rw [← hu] at k0
  obtain ⟨T, hT⟩ : ∃ T, T = w1.heap.size := ⟨_, rfl⟩
  obtain ⟨w2, hw2⟩ : ∃ w2, w2 = w1.alloc (.cells #[.int .i64 0, .slice none 0 0] 42) := ⟨_, rfl⟩
  have hB2 : Below w1.heap.size w1 (w1.alloc (.cells #[.int .i64 0, .slice none 0 0] 42)) := (Below.refl _ _).alloc (Nat.le_refl _) _
  have hR2 := hR1.alloc (.cells #[.int .i64 0, .slice none 0 0] 42)
  have hW2 := hW1.alloc hW1.size (.cells #[.int .i64 0, .slice none 0 0] 42)
  have hS2 := Bk.new w1 42 #[.int .i64 0, .slice none 0 0]
  have hrd2 := hrd.keep hB2
  have k2 := (hB2.cell (p := ⟨w.heap.size + 1, 0, none⟩) hgw).trans k0
  rw [← hw2] at hR2 hW2 hS2 hrd2 k2
  rw [← hT] at hS2
  have hTl : w.heap.size + 1 < T := by omega
  have hLw := HL.out.keep hW2
  have hPi := implParseInt_any u w2 huz hLw
  clear hR1 hW1 hrd hB2 q0 q1 f0 f1 rl o1
  have Hu := Lib.hid hu
  clear hu
  have Hz := Lib.hid hz
  clear hz
  have HT := Lib.hid hT
  clear hT
  have Hw2 := Lib.hid hw2
  clear hw2
  have HR2 := Lib.hid hR2
  clear hR2
  have HW2 := Lib.hid hW2
  clear hW2
  have HS2 := Lib.hid hS2
  clear hS2
  have Hrd2 := Lib.hid hrd2
  clear hrd2
  have HPi := Lib.hid hPi
  clear hPi
  have HLw := Lib.hid hLw
  clear hLw
  go_wp2_with fail
  (try rw [← HT.out, ← Hw2.out])
  with_reducible refine HPi.out.mono ?_
  rintro e w3 ⟨n, ok, rfl, hP, hn0, hn1, b3⟩
  rw [Hu.out] at hP
  have hR3 := HR2.out.below b3 HR2.out.lt
  have hS3 := HS2.out.below b3 HS2.out.lt
  have hW3 := HW2.out.trans (b3.mono HW2.out.size)
  have hrd3 := Hrd2.out.keep b3
  have c0 : w3.cell? ⟨T, 0, none⟩ = some (.int .i64 0) := by rw [hS3.cell]; rfl
  have cf := hS3.free 0
  have cl := hS3.lt
  obtain ⟨w4, hw4⟩ : ∃ w4, w4 = w3.setCell ⟨T, 0, none⟩ (.int .i64 n) := ⟨_, rfl⟩
  have hR4 := hR3.far (p := ⟨T, 0, none⟩) (by dsimp only; omega) (.int .i64 n)
  have hS4 := hS3.put 0 (.int .i64 n)
  have hW4 := hW3.setCell (p := ⟨T, 0, none⟩) (by dsimp only; omega) (.int .i64 n)
  have hrd4 := hrd3.far_ne (p := ⟨T, 0, none⟩) (by dsimp only; omega) (.int .i64 n)
  have hS5 : Bk (w3.setCell ⟨T, 0, none⟩ (.int .i64 n)) T 42 #[.int .i64 n, .slice none 0 0] := hS4
  rw [← hw4] at hR4 hW4 hrd4 hS5
  obtain ⟨k, had, hk⟩ := cut1 (g := w.heap.size + 1) (d := z) (z := z) (Nat.le_refl _)
  clear HR2 HS2 HW2 Hrd2 hS4 hR3 hS3 hW3 hrd3 HPi k2 k0
  have HP := Lib.hid hP
  clear hP
  have Hw4 := Lib.hid hw4
  clear hw4
  have HR4 := Lib.hid hR4
  clear hR4
  have HW4 := Lib.hid hW4
  clear hW4
  have HS5 := Lib.hid hS5
  clear hS5
  have Hrd4 := Lib.hid hrd4
  clear hrd4
  have Hk := Lib.hid hk
  clear hk
  go_wp2_with fail
  (try rw [← Hw4.out])
  clear c0 cf cl
  go_loopw [25] (fun i wr => ∃ (j : Nat) (C : Option Addr) (e : Nat), j ≤ z - 1 ∧ i = .int .i64 j ∧ Bk wr w.heap.size 42 #[.int .i64 0, .slice none 0 0] ∧ Bk wr T 42 #[.int .i64 n, .slice C j e] ∧ wr.ownsRow (T + 1) 9 1 (.slice C j e) j (strs ((ptX s).take j)) ∧ Rd wr (some ⟨w.heap.size + 1, 0, none⟩) (strs (splW s)) ∧ Below w.heap.size w wr) (fun i _ => z - (intOf i).toNat)
  case atStart => exact ⟨0, none, 0, Nat.zero_le _, rfl, HR4.out, HS5.out, World.ownsRow_nil _ _ _ _, Hrd4.out, HW4.out⟩
  case round =>
    clear HR4 HW4 HS5 Hrd4 Hw4 HT b3 Hw2
    obtain ⟨j, C, e, hj, rfl, hR, hS, hown, hrd, hW⟩ := hrel
    have sl := hS.lt
    by_cases hlt : j < z - 1
    · have hk1 : k = 1 := Hk.out (by omega)
      subst hk1
      have hj2 : j + 1 < (splW s).length := by rw [← Hz.out]; omega
      obtain ⟨x, hx⟩ : ∃ x, x = (splW s)[j + 1] := ⟨_, rfl⟩
      have p0 : wr.cell? ⟨w.heap.size + 1, 1 + j, none⟩ = some (.string x) := by
        have := rd_cellsP hrd (j + 1) x (by rw [hx, List.getElem?_eq_getElem hj2])
        rw [Nat.add_comm 1 j]
        simpa using this
      have hjX : j < (ptX s).length := by omega
      have hxX : (ptX s)[j] = undot x := by
        rw [hx]
        simp only [ptX, List.getElem_map, List.getElem_tail]
      obtain ⟨y, hy⟩ : ∃ y, y = undot x := ⟨_, rfl⟩
      have htk : strs ((ptX s).take (j + 1)) = strs ((ptX s).take j) ++ [.string y] := by
        rw [List.take_succ_eq_append_getElem hjX, hxX, strs_snocF, hy]
      have hD : ∀ W, Calls Tryd.prog 53 #[.string x] W (fun e w' => e = .returned (.string y) ∧ W = w') := fun W => by rw [hy]; exact implUndot_any x W
      have u1 : wr.cell? ⟨T, 1, none⟩ = some (.slice C j e) := by rw [hS.cell]; rfl
      have hjz : (j : Int) < (z - 1 : Nat) := by omega
      have hwl := hW.size
      have Hx := Lib.hid hx
      clear hx
      have HxX := Lib.hid hxX
      clear hxX
      have Htk := Lib.hid htk
      clear htk
      have Hy := Lib.hid hy
      clear hy
      have HD := Lib.hid hD
      clear hD
      go_wp2_with fail
      go_region_law (first | (refine step_app1 _ wr.drew rfl _ _ 29 rfl (T + 1) 9 1 16 _ Tryd.underlying29 info_str rfl (by omega) _ _ _ _ rfl rfl rfl (own_drewF hown) rfl (one_cell_strF _) (by omega) (by unfold maxLen; omega) (by show T + 1 ≤ wr.heap.size; omega) ?_; intro A5 c5 w5 hO5 hW5; have hS5 := hS.drew.below hW5 (by omega); have x5 := hS5.cell 1; have f5 := hS5.free 1; have l5 := hS5.lt) | (go_simp; ((with_reducible refine (HD.out _).mono ?_); rintro e u ⟨rfl, rfl⟩)))
      all_goals
        have hN := (hW.drew.trans (hW5.mono (by omega))).setCell (p := ⟨T, 1, none⟩) (by dsimp only; omega) (.slice A5 (j + 1) c5)
        have hRn := (hR.drew.below hW5 (by omega)).far (p := ⟨T, 1, none⟩) (by dsimp only; omega) (.slice A5 (j + 1) c5)
        have hSn := hS5.put 1 (.slice A5 (j + 1) c5)
        have hon := ownsRow_setCell_below hO5 (a := ⟨T, 1, none⟩) (by simp) (.slice A5 (j + 1) c5)
        have hrdn := (hrd.drew.keep2 hW5 (by omega)).far_ne (p := ⟨T, 1, none⟩) (by dsimp only; omega) (.slice A5 (j + 1) c5)
        have hon2 := hon
        rw [show strs ((ptX s).take j) ++ (#[Value.string y] : Array Value).toList = strs ((ptX s).take (j + 1)) from Htk.out.symm] at hon2
        clear hO5 hon hS5 x5 f5
        go_wp2_with fail
        go_roundw
        case rel => exact ⟨j + 1, A5, c5, by omega, by go_num, hRn, hSn, hon2, hrdn, hN⟩
        case measure => simp [intOf] <;> omega
    · have hjz : j = z - 1 := by omega
      have hjX : j = (ptX s).length := by omega
      have hTk : (ptX s).take j = ptX s := List.take_of_length_le (by omega)
      rw [hTk] at hown
      have hjn : ¬ (j : Int) < (z - 1 : Nat) := by omega
      have l0 : wr.cell? ⟨T, 0, none⟩ = some (.int .i64 n) := by rw [hS.cell]; rfl
      have l1 : wr.cell? ⟨T, 1, none⟩ = some (.slice C j e) := by rw [hS.cell]; rfl
      have q0 : wr.cell? ⟨w.heap.size, 0, none⟩ = some (.int .i64 0) := by rw [hR.cell]; rfl
      have q1 : wr.cell? ⟨w.heap.size, 1, none⟩ = some (.slice none 0 0) := by rw [hR.cell]; rfl
      have f0 := hR.free 0
      have f1 := hR.free 1
      have rl := hR.lt
      have hXz : ∀ x ∈ ptX s, x.size ≤ 1048576 := fun x hx => by (have := ptX_size s x hx); omega
      have hrdX := Rd.of_own hown
      cases hq : s.toList.isEmpty
      rotate_left
      · have e0 : ptOk s = false := pt_empty hq
        have e1 : ptL s = 0 := by rw [ptL, e0]; rfl
        have e2 : ptT s = [] := by rw [ptT, e0]; rfl
        have Hjz := Lib.hid hjz
        clear hjz
        have HjX := Lib.hid hjX
        clear hjX
        have HXz := Lib.hid hXz
        clear hXz
        have HrdX := Lib.hid hrdX
        clear hrdX
        have HR := Lib.hid hR
        clear hR
        have HS := Lib.hid hS
        clear hS
        have Hown := Lib.hid hown
        clear hown
        have E0 := Lib.hid e0
        clear e0
        have E1 := Lib.hid e1
        clear e1
        have E2 := Lib.hid e2
        clear e2
        go_wp2_with fail
        refine bodyPost_ret (v := .tuple #[.agg #[.int .i64 0, .slice none 0 0], .bool false]) (by simp [results, Tryd.results23, go_sem, q0, q1]) rfl ?_
        rw [E1.out, E2.out, E0.out]
        refine ⟨none, 0, rfl, World.ownsRow_nil _ _ _ _, ?_⟩
        first | exact hW | exact (hW.setCell (by dsimp only; omega) _).setCell (by dsimp only; omega) _
      have hok := pt_last HP.out hq
      have Hjz := Lib.hid hjz
      clear hjz
      have HjX := Lib.hid hjX
      clear hjX
      have HXz := Lib.hid hXz
      clear hXz
      have HrdX := Lib.hid hrdX
      clear hrdX
      have HR := Lib.hid hR
      clear hR
      have HS := Lib.hid hS
      clear hS
      have Hown := Lib.hid hown
      clear hown
      have HW := Lib.hid hW
      clear hW
      have Hok := Lib.hid hok
      clear hok
      go_wp2_with fail
      with_reducible refine (implFormatTag_any n C j e (ptX s) _ HrdX.out HjX.out (by omega) HXz.out).mono ?_
      rintro e5 w5 ⟨rfl, b5⟩
      have hR5 := HR.out.below b5 HR.out.lt
      have hS5 := HS.out.below b5 HS.out.lt
      have ho5 := own_keep Hown.out b5 (Nat.le_refl _)
      have hW5 := HW.out.trans (b5.mono HW.out.size)
      clear HR HS Hown HW HrdX b5 l0 l1 q0 q1 f0 f1 rl
      have l0 : w5.cell? ⟨T, 0, none⟩ = some (.int .i64 n) := by rw [hS5.cell]; rfl
      have l1 : w5.cell? ⟨T, 1, none⟩ = some (.slice C j e) := by rw [hS5.cell]; rfl
      have q0 : w5.cell? ⟨w.heap.size, 0, none⟩ = some (.int .i64 0) := by rw [hR5.cell]; rfl
      have q1 : w5.cell? ⟨w.heap.size, 1, none⟩ = some (.slice none 0 0) := by rw [hR5.cell]; rfl
      have f0 := hR5.free 0
      have f1 := hR5.free 1
      have rl := hR5.lt
      have sl5 := hS5.lt
      obtain ⟨r, hrr⟩ : ∃ r', r' = (fmtT n (ptX s)) := ⟨_, rfl⟩
      rw [← hrr]
      have H2 := Lib.hid hrr
      clear hrr
      cases hru : (r.toList == s.toList)
      · have e0 : ptOk s = false := by rw [Hok.out, ← H2.out]; exact hru
        have e1 : ptL s = 0 := by rw [ptL, e0]; rfl
        have e2 : ptT s = [] := by rw [ptT, e0]; rfl
        have E0 := Lib.hid e0
        clear e0
        have E1 := Lib.hid e1
        clear e1
        have E2 := Lib.hid e2
        clear e2
        have HR5 := Lib.hid hR5
        clear hR5
        have HS5 := Lib.hid hS5
        clear hS5
        have Ho5 := Lib.hid ho5
        clear ho5
        go_wp2_with fail
        refine bodyPost_ret (v := .tuple #[.agg #[.int .i64 0, .slice none 0 0], .bool false]) (by simp [results, Tryd.results23, go_sem, q0, q1]) rfl ?_
        rw [E1.out, E2.out, E0.out]
        refine ⟨none, 0, rfl, World.ownsRow_nil _ _ _ _, ?_⟩
        first | exact hW5 | exact (hW5.setCell (by dsimp only; omega) _).setCell (by dsimp only; omega) _
      · have e0 : ptOk s = true := by rw [Hok.out, ← H2.out]; exact hru
        have e1 : ptL s = n := by rw [ptL, e0]; exact (pt_n HP.out e0).symm
        have e2 : ptT s = ptX s := by rw [ptT, e0]; rfl
        have E0 := Lib.hid e0
        clear e0
        have E1 := Lib.hid e1
        clear e1
        have E2 := Lib.hid e2
        clear e2
        have HS5 := Lib.hid hS5
        clear hS5
        go_wp2_with fail
        have hBn := (hR5.put 0 (.int .i64 n)).put 1 (.slice C j e)
        have y0 := hBn.cell 0
        have y1 := hBn.cell 1
        refine bodyPost_ret (v := .tuple #[.agg #[.int .i64 n, .slice C j e], .bool true]) (by simp [results, Tryd.results23, go_sem, y0, y1]) rfl ?_
        rw [E1.out, E2.out, E0.out, ← HjX.out]
        refine ⟨C, e, rfl, ?_, ?_⟩
        · exact own_mono (ownsRow_setCell_below (ownsRow_setCell_below ho5 (a := ⟨w.heap.size, 0, none⟩) (by dsimp only; omega) _) (a := ⟨w.heap.size, 1, none⟩) (by dsimp only; omega) _) (by omega)
        · exact (hW5.setCell (by dsimp only; omega) _).setCell (by dsimp only; omega) _

end Go.Proofs.YtgceabbeeobmgaaDoor
