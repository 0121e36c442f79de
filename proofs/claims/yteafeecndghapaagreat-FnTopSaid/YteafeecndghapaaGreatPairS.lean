/- Walks over l05Inside, l05Across and PairsOf of the reference. -/
import Derived.Test.YteafeecndghapaaGreatMg15
import Derived.Test.YteafeecndghapaaGreatMg1
import Derived.Test.YteafeecndghapaaGreatNorm
import Derived.Test.YteafeecndghapaaGreatMg13
import Derived.Deep.RegionLaw
namespace Go.Proofs.YteafeecndghapaaGreat
open Go.RowKit Go.Shelf

theorem info_Pair : (Tryz.prog.info? 77).map (fun i => (i.zero, i.size, i.bytes)) = some (some (.agg #[.string ⟨#[]⟩, .int .i64 0, .int .i64 0, .int .i64 0, .int .i64 0]), 5, 48) := by kernel_rfl
theorem rd_I {w : World} {A : Option Addr} {xs : List Int} (h : Rd w A (ints xs)) {k : Nat} (hk : k < xs.length) : ∃ b off, A = some ⟨b, off, none⟩ ∧ b < w.heap.size ∧ w.cell? ⟨b, off + k, none⟩ = some (.int .i64 xs[k]) := by
  have hu := ints_get xs k hk
  obtain ⟨b, o, e, hl, hc⟩ := h (by intro e; rw [e] at hu; cases hu)
  exact ⟨b, o, e, hl, hc k _ hu⟩
theorem insideL_len {rs : List RuleT} {i j : Nat} : (insideL rs i j).length ≤ (ruleAt rs i).1.size + 1 := by
  unfold insideL
  split
  · simp
  · rw [List.length_map]
    exact Nat.le_trans (plc_len _ _ _) (by omega)
theorem acrossL_len {rs : List RuleT} {i j : Nat} : (acrossL rs i j).length ≤ (ruleAt rs i).1.size := by
  unfold acrossL
  rw [List.length_map]
  have := ovl_len (ruleAt rs i).1 (ruleAt rs j).1 (ovN (ruleAt rs i).1 (ruleAt rs j).1)
  unfold ovs
  unfold ovN at *
  omega

set_option maxRecDepth 100000 in
set_option maxHeartbeats 2000000 in
theorem specInside_any (l : Int) (A : Option Addr) (n c : Nat) (rs : List RuleT) (i j : Nat) (w : World) (hr : Rd w A (cellsRule rs)) (hn : n = rs.length) (hb : n ≤ 12) (h8 : ∀ k, (ruleAt rs k).1.size ≤ 16) (hne : ∀ k, k < rs.length → (ruleAt rs k).1 ≠ ⟨#[]⟩) (hi : i < n) (hj : j < n) :
    Calls Tryz.prog 91 #[.agg #[.int .i64 l, .slice A n c], .int .i64 (i : Int), .int .i64 (j : Int)] w (MadeSlN w 77 5 (insideL rs i j).length (cellsPair (insideL rs i j))) := by
  have hO0 := own_of_bk (base := w.heap.size + 1) (m := 5) (n := 0) ((Bk.new (w.alloc (.cells #[.int .i64 l, .slice A n c] 25)) 77 #[]).cast (g' := w.heap.size + 1) (by simp)) (Nat.le_refl _) rfl (by unfold maxLen; omega)
  have hW0 : Below w.heap.size w ((w.alloc (.cells #[.int .i64 l, .slice A n c] 25)).alloc (.cells #[] 77)) := ((Below.refl _ _).alloc (Nat.le_refl _) _).alloc (by simp) _
  have hS0 := (Bk.new w 25 #[.int .i64 l, .slice A n c]).alloc (.cells #[] 77)
  have s0_0 : ((w.alloc (.cells #[.int .i64 l, .slice A n c] 25)).alloc (.cells #[] 77)).cell? ⟨w.heap.size, 0, none⟩ = some (.int .i64 l) := by rw [hS0.cell]; rfl
  have s1_0 : ((w.alloc (.cells #[.int .i64 l, .slice A n c] 25)).alloc (.cells #[] 77)).cell? ⟨w.heap.size, 1, none⟩ = some (.slice A n c) := by rw [hS0.cell]; rfl
  have sl_0 := hS0.lt
  by_cases hij : i = j
  · subst hij
    have e1 : insideL rs i i = [] := by rw [insideL, if_pos rfl]
    have E1 := Lib.hid e1
    clear e1
    have Hr := Lib.hid hr
    clear hr
    have Hn := Lib.hid hn
    clear hn
    have Hne := Lib.hid hne
    clear hne
    have H8 := Lib.hid h8
    clear h8
    have HO0 := Lib.hid hO0
    clear hO0
    go_enter Tryz.func91, Tryz.ntmps91
    go_wp2_with fail
    go_ret
    rw [E1.out]
    exact ⟨_, _, rfl, own_mono HO0.out (by omega), hW0⟩
  have hij2 : ¬ (i : Int) = (j : Int) := by omega
  have hq : ((i : Int) == (j : Int)) = false := by simp; omega
  have hi2 : i < rs.length := by omega
  have hj2 : j < rs.length := by omega
  obtain ⟨b, o, rfl, hbl, p0, p1⟩ := rd_Rule (hr.keep hW0) hi2
  obtain ⟨b', o', e', hbl', r0, r1⟩ := rd_Rule (hr.keep hW0) hj2
  injection e' with e'
  injection e' with e1 e2 _
  subst e1 e2
  have hu8 := h8 i
  have hv8 := h8 j
  have hvne := hne j hj2
  rw [ruleAt_get hi2] at hu8
  rw [ruleAt_get hj2] at hv8 hvne
  obtain ⟨⟨u, u1⟩, hu⟩ : ∃ u, u = rs[i] := ⟨_, rfl⟩
  obtain ⟨⟨v, v1⟩, hv⟩ : ∃ u, u = rs[j] := ⟨_, rfl⟩
  rw [← hu] at p0 p1 hu8
  rw [← hv] at r0 r1 hv8 hvne
  dsimp only at p0 p1 r0 r1 hu8 hv8 hvne
  have hE : insideL rs i j = (pls u v).map (inP u i j) := by rw [insideL, if_neg hij, ruleAt_get hi2, ruleAt_get hj2, ← hu, ← hv]
  have hPl : (pls u v).length ≤ 17 := Nat.le_trans (plc_len _ _ _) (by omega)
  obtain ⟨P, hP⟩ : ∃ P, P = pls u v := ⟨_, rfl⟩
  rw [← hP] at hE hPl
  rw [hE, List.length_map]
  obtain ⟨z, hz⟩ : ∃ z, z = P.length := ⟨_, rfl⟩
  rw [← hz] at hPl ⊢
  have eS : ∀ W, Below ((w.alloc (.cells #[.int .i64 l, .slice (some ⟨b, o, none⟩) n c] 25)).alloc (.cells #[] 77)).drew.heap.size ((w.alloc (.cells #[.int .i64 l, .slice (some ⟨b, o, none⟩) n c] 25)).alloc (.cells #[] 77)).drew W → W.cell? ⟨w.heap.size, 0, none⟩ = some (.int .i64 l) ∧ W.cell? ⟨w.heap.size, 1, none⟩ = some (.slice (some ⟨b, o, none⟩) n c) ∧ W.cell? ⟨b, o + i * 2, none⟩ = some (.string u) ∧ W.cell? ⟨b, o + j * 2, none⟩ = some (.string v) := fun W hb => ⟨(hb.cell (p := ⟨w.heap.size, 0, none⟩) hS0.lt).trans s0_0, (hb.cell (p := ⟨w.heap.size, 1, none⟩) hS0.lt).trans s1_0, (hb.cell (p := ⟨b, o + i * 2, none⟩) hbl).trans p0, (hb.cell (p := ⟨b, o + j * 2, none⟩) hbl).trans r0⟩
  have zS := eS _ (Below.refl _ _)
  have hPo : ∀ W : World, Calls Tryz.prog 105 #[.string u, .string v] W (MadeSl W 3 1 z (ints P)) := fun W => by rw [hz, hP]; exact specPlaces_any u v W (by omega) (by omega) hvne
  clear hu8 hv8 hvne hbl hbl' r1
  have Hr := Lib.hid hr
  clear hr
  have Hn := Lib.hid hn
  clear hn
  have Hu := Lib.hid hu
  clear hu
  have Hv := Lib.hid hv
  clear hv
  have HE := Lib.hid hE
  clear hE
  have HP := Lib.hid hP
  clear hP
  have Hz := Lib.hid hz
  clear hz
  have ES := Lib.hid eS
  clear eS
  have ZS := Lib.hid zS
  clear zS
  have HO0 := Lib.hid hO0
  clear hO0
  have Hne := Lib.hid hne
  clear hne
  have H8 := Lib.hid h8
  clear h8
  have HPo := Lib.hid hPo
  clear hPo
  go_enter Tryz.func91, Tryz.ntmps91
  go_wp2_with fail
  go_region_held3 (fun W => W.cell? ⟨w.heap.size, 0, none⟩ = some (.int .i64 l) ∧ W.cell? ⟨w.heap.size, 1, none⟩ = some (.slice (some ⟨b, o, none⟩) n c) ∧ W.cell? ⟨b, o + i * 2, none⟩ = some (.string u) ∧ W.cell? ⟨b, o + j * 2, none⟩ = some (.string v)) (first | exact ZS.out | exact ES.out _ b2) (((with_reducible refine (HPo.out _).mono ?_); rintro e w2 ⟨B, d, rfl, hOp, b2⟩))
  have hb2 : Below ((w.alloc (.cells #[.int .i64 l, .slice (some ⟨b, o, none⟩) n c] 25)).alloc (.cells #[] 77)).heap.size ((w.alloc (.cells #[.int .i64 l, .slice (some ⟨b, o, none⟩) n c] 25)).alloc (.cells #[] 77)) w2 := ((Below.refl _ _).drew).trans b2
  have hW2 := hW0.trans (hb2.mono hW0.size)
  have hS2 := hS0.below hb2 hS0.lt
  have hO2 := own_keep HO0.out hb2 (Nat.le_refl _)
  have hA2 : Apt (.slice (some ⟨w.heap.size + 1, 0, none⟩) 0 0) B w2 := Apt.of_own hOp (fun k hk => by simp [Value.ownBlock] at hk; subst hk; show w.heap.size + 1 < ((w.alloc _).alloc _).heap.size; simp)
  have hR2 := Rd.of_own hOp
  have hmap0 : cellsPair ((P.take 0).map (inP u i j)) = (#[] : Array Value).toList := by simp [cellsPair]
  clear hW0 hS0 b2 hb2 hOp HO0 ES ZS p0 p1 r0 s0_0 s1_0 sl_0
  have HW2 := Lib.hid hW2
  clear hW2
  have HS2 := Lib.hid hS2
  clear hS2
  have HO2 := Lib.hid hO2
  clear hO2
  have HA2 := Lib.hid hA2
  clear hA2
  have HR2 := Lib.hid hR2
  clear hR2
  have Hmap0 := Lib.hid hmap0
  clear hmap0
  go_wp2_with fail
  go_loopw [7, 29] (fun v iv wr => ∃ (q g d : Nat), q ≤ z ∧ iv = .int .i64 (q : Int) ∧ v = .slice (some ⟨g, 0, none⟩) q d ∧ Bk wr w.heap.size 25 #[.int .i64 l, .slice (some ⟨b, o, none⟩) n c] ∧ wr.ownsRow (w.heap.size + 1) 77 5 (.slice (some ⟨g, 0, none⟩) q d) q (cellsPair ((P.take q).map (inP u i j))) ∧ Below w.heap.size w wr ∧ Rd wr B (ints P) ∧ Apt (.slice (some ⟨g, 0, none⟩) q d) B wr) (fun _ iv _ => z - (intOf iv).toNat)
  case atStart => exact ⟨0, _, _, Nat.zero_le _, rfl, rfl, HS2.out, by rw [Hmap0.out]; exact HO2.out, HW2.out, HR2.out, HA2.out⟩
  case round =>
    clear HS2 HO2 HW2 HR2 HA2 Hmap0
    obtain ⟨q, g, d', hq, rfl, rfl, hS, hO, hW, hR, hA⟩ := hrel
    by_cases hlt : q < z
    · have hqP : q < P.length := by rw [← Hz.out]; exact hlt
      have hT : (P.take (q + 1)).map (inP u i j) = (P.take q).map (inP u i j) ++ [inP u i j P[q]] := by rw [List.take_succ_eq_append_getElem hqP, List.map_append]; rfl
      obtain ⟨b9, o9, hBe, hbl9, k9⟩ := rd_I hR hqP
      obtain ⟨x, hx⟩ : ∃ x, x = P[q] := ⟨_, rfl⟩
      rw [← hx] at k9 hT
      obtain ⟨b', o', e', hbl', p0, p1⟩ := rd_Rule (Hr.out.keep hW) (k := i) (by rw [← Hn.out]; exact hi)
      injection e' with e'
      injection e' with e1 e2 _
      subst e1 e2
      rw [← Hu.out] at p0
      dsimp only at p0
      have s0 : wr.cell? ⟨w.heap.size, 0, none⟩ = some (.int .i64 l) := by rw [hS.cell]; rfl
      have s1 : wr.cell? ⟨w.heap.size, 1, none⟩ = some (.slice (some ⟨b, o, none⟩) n c) := by rw [hS.cell]; rfl
      have sl := hS.lt
      have hin : (i : Int) < (n : Int) := by omega
      subst hBe
      rw [show inP u i j x = (u, (i : Int), 0, (j : Int), x) from rfl] at hT
      clear p1 hbl' 
      have Hx := Lib.hid hx
      clear hx
      have HT := Lib.hid hT
      clear hT
      have HR := Lib.hid hR
      clear hR
      have HA := Lib.hid hA
      clear hA
      have HW := Lib.hid hW
      clear hW
      have HS := Lib.hid hS
      clear hS
      have Hbl9 := Lib.hid hbl9
      clear hbl9
      go_wp2_with (at_builtin; refine wpList_app5 _ wr _ rfl rfl _ _ 47 rfl (w.heap.size + 1) 77 5 48 _ Tryz.underlying47 info_Pair rfl (by omega) _ _ _ _ rfl rfl rfl hO rfl (one_cell_pair1 _ _ _ _ _) (by omega) (by unfold maxLen; omega) (by omega) ?_; intro g5 c5 w5 hO5 hW5 hG5 hat5)
      have hW6 := HW.out.trans (hW5.mono (by omega))
      have hS6 := HS.out.below hW5 (by omega)
      have hO6 : w5.ownsRow (w.heap.size + 1) 77 5 (.slice (some ⟨g5, 0, none⟩) (q + 1) c5) (q + 1) (cellsPair ((P.take (q + 1)).map (inP u i j))) := by rw [HT.out, cellsPair_snoc1]; exact hO5
      have hR6 := HA.out.rd HR.out hG5
      have hA6 := HA.out.next (n := q + 1) (c := c5) hG5 hat5
      clear hO5 hW5 hG5 hat5 HW HS HR HA hO
      have HR6 := Lib.hid hR6
      clear hR6
      have HA6 := Lib.hid hA6
      clear hA6
      have HS6 := Lib.hid hS6
      clear hS6
      have HW6 := Lib.hid hW6
      clear hW6
      have HO6 := Lib.hid hO6
      clear hO6
      go_wp2_with fail
      go_roundw
      case rel => exact ⟨q + 1, g5, c5, by omega, by go_num, rfl, HS6.out, HO6.out, HW6.out, HR6.out, HA6.out⟩
      case measure => simp [intOf] <;> omega
    · have : q = z := by omega
      subst this
      have hT : P.take q = P := List.take_of_length_le (by rw [← Hz.out]; exact Nat.le_refl _)
      rw [hT] at hO
      have HT := Lib.hid hT
      clear hT
      have HR := Lib.hid hR
      clear hR
      have HA := Lib.hid hA
      clear hA
      go_wp2_with fail
      go_ret
      exact ⟨_, d', rfl, own_mono hO (by omega), hW⟩

set_option maxRecDepth 100000 in
set_option maxHeartbeats 2000000 in
theorem specAcross_any (l : Int) (A : Option Addr) (n c : Nat) (rs : List RuleT) (i j : Nat) (w : World) (hr : Rd w A (cellsRule rs)) (hn : n = rs.length) (hb : n ≤ 12) (h8 : ∀ k, (ruleAt rs k).1.size ≤ 16) (hi : i < n) (hj : j < n) :
    Calls Tryz.prog 92 #[.agg #[.int .i64 l, .slice A n c], .int .i64 (i : Int), .int .i64 (j : Int)] w (MadeSlN w 77 5 (acrossL rs i j).length (cellsPair (acrossL rs i j))) := by
  have hO0 := own_of_bk (base := w.heap.size + 1) (m := 5) (n := 0) ((Bk.new (w.alloc (.cells #[.int .i64 l, .slice A n c] 25)) 77 #[]).cast (g' := w.heap.size + 1) (by simp)) (Nat.le_refl _) rfl (by unfold maxLen; omega)
  have hW0 : Below w.heap.size w ((w.alloc (.cells #[.int .i64 l, .slice A n c] 25)).alloc (.cells #[] 77)) := ((Below.refl _ _).alloc (Nat.le_refl _) _).alloc (by simp) _
  have hi2 : i < rs.length := by omega
  have hj2 : j < rs.length := by omega
  obtain ⟨b, o, rfl, hbl, p0, p1⟩ := rd_Rule (hr.keep hW0) hi2
  obtain ⟨b', o', e', hbl', r0, r1⟩ := rd_Rule (hr.keep hW0) hj2
  injection e' with e'
  injection e' with e1 e2 _
  subst e1 e2
  have hS0 := (Bk.new w 25 #[.int .i64 l, .slice (some ⟨b, o, none⟩) n c]).alloc (.cells #[] 77)
  have s0_0 : ((w.alloc (.cells #[.int .i64 l, .slice (some ⟨b, o, none⟩) n c] 25)).alloc (.cells #[] 77)).cell? ⟨w.heap.size, 0, none⟩ = some (.int .i64 l) := by rw [hS0.cell]; rfl
  have s1_0 : ((w.alloc (.cells #[.int .i64 l, .slice (some ⟨b, o, none⟩) n c] 25)).alloc (.cells #[] 77)).cell? ⟨w.heap.size, 1, none⟩ = some (.slice (some ⟨b, o, none⟩) n c) := by rw [hS0.cell]; rfl
  have sl_0 := hS0.lt
  have hin : (i : Int) < (n : Int) := by omega
  have hjn : (j : Int) < (n : Int) := by omega
  have hu8 := h8 i
  have hv8 := h8 j
  rw [ruleAt_get hi2] at hu8
  rw [ruleAt_get hj2] at hv8
  obtain ⟨⟨u, u1⟩, hu⟩ : ∃ u, u = rs[i] := ⟨_, rfl⟩
  obtain ⟨⟨v, v1⟩, hv⟩ : ∃ u, u = rs[j] := ⟨_, rfl⟩
  rw [← hu] at p0 p1 hu8
  rw [← hv] at r0 r1 hv8
  dsimp only at p0 p1 r0 r1 hu8 hv8
  have hE : acrossL rs i j = (ovs u v).map (acP u v i j) := by rw [acrossL, ruleAt_get hi2, ruleAt_get hj2, ← hu, ← hv]
  have hPl : (ovs u v).length ≤ 16 := by
    have := ovl_len u v (ovN u v)
    unfold ovs
    unfold ovN at *
    omega
  have hPin : ∀ x ∈ ovs u v, 1 ≤ x ∧ x < u.size ∧ x < v.size := fun x hx => ovs_in hx
  have hPo0 : ∀ W : World, Calls Tryz.prog 106 #[.string u, .string v] W (MadeSl W 3 1 (ovs u v).length (ints (ovs u v))) := fun W => specOverlaps_any u v W (by omega) (by omega)
  obtain ⟨P, hP⟩ : ∃ P, P = ovs u v := ⟨_, rfl⟩
  rw [← hP] at hE hPl hPin hPo0
  rw [hE, List.length_map]
  obtain ⟨z, hz⟩ : ∃ z, z = P.length := ⟨_, rfl⟩
  rw [← hz] at hPl hPo0 ⊢
  clear hbl' r1 p1
  have Hr := Lib.hid hr
  clear hr
  have Hn := Lib.hid hn
  clear hn
  have Hu := Lib.hid hu
  clear hu
  have Hv := Lib.hid hv
  clear hv
  have HE := Lib.hid hE
  clear hE
  have HP := Lib.hid hP
  clear hP
  have Hz := Lib.hid hz
  clear hz
  have HO0 := Lib.hid hO0
  clear hO0
  have H8 := Lib.hid h8
  clear h8
  have HPo0 := Lib.hid hPo0
  clear hPo0
  have HPin := Lib.hid hPin
  clear hPin
  have HW0 := Lib.hid hW0
  clear hW0
  have HS0 := Lib.hid hS0
  clear hS0
  go_enter Tryz.func92, Tryz.ntmps92
  go_wp2_with fail
  refine (HPo0.out _).mono ?_
  rintro e w2 ⟨B, d, rfl, hOp, hb2⟩
  have hW2 := HW0.out.trans (hb2.mono HW0.out.size)
  have hS2 := HS0.out.below hb2 HS0.out.lt
  have hO2 := own_keep HO0.out hb2 (Nat.le_refl _)
  have hA2 : Apt (.slice (some ⟨w.heap.size + 1, 0, none⟩) 0 0) B w2 := Apt.of_own hOp (fun k hk => by simp [Value.ownBlock] at hk; subst hk; simp)
  have hR2 := Rd.of_own hOp
  have hmap0 : cellsPair ((P.take 0).map (acP u v i j)) = (#[] : Array Value).toList := by simp [cellsPair]
  clear HW0 HS0 hb2 hOp HO0 p0 r0 s0_0 s1_0 sl_0
  have HW2 := Lib.hid hW2
  clear hW2
  have HS2 := Lib.hid hS2
  clear hS2
  have HO2 := Lib.hid hO2
  clear hO2
  have HA2 := Lib.hid hA2
  clear hA2
  have HR2 := Lib.hid hR2
  clear hR2
  have Hmap0 := Lib.hid hmap0
  clear hmap0
  go_wp2_with fail
  go_loopw [7, 29] (fun v' iv wr => ∃ (q g d : Nat), q ≤ z ∧ iv = .int .i64 (q : Int) ∧ v' = .slice (some ⟨g, 0, none⟩) q d ∧ wr.ownsRow (w.heap.size + 1) 77 5 (.slice (some ⟨g, 0, none⟩) q d) q (cellsPair ((P.take q).map (acP u v i j))) ∧ Below w.heap.size w wr ∧ Rd wr B (ints P) ∧ Apt (.slice (some ⟨g, 0, none⟩) q d) B wr) (fun _ iv _ => z - (intOf iv).toNat)
  case atStart => exact ⟨0, _, _, Nat.zero_le _, rfl, rfl, by rw [Hmap0.out]; exact HO2.out, HW2.out, HR2.out, HA2.out⟩
  case round =>
    clear HS2 HO2 HW2 HR2 HA2 Hmap0
    obtain ⟨q, g, d', hq, rfl, rfl, hO, hW, hR, hA⟩ := hrel
    by_cases hlt : q < z
    · have hqP : q < P.length := by rw [← Hz.out]; exact hlt
      have hT : (P.take (q + 1)).map (acP u v i j) = (P.take q).map (acP u v i j) ++ [acP u v i j P[q]] := by rw [List.take_succ_eq_append_getElem hqP, List.map_append]; rfl
      obtain ⟨b9, o9, hBe, hbl9, k9⟩ := rd_I hR hqP
      have hxin := HPin.out P[q] (List.getElem_mem hqP)
      obtain ⟨x, hx⟩ : ∃ x, x = P[q] := ⟨_, rfl⟩
      rw [← hx] at k9 hT hxin
      obtain ⟨hx1, hx2, hx3⟩ := hxin
      obtain ⟨y, rfl⟩ : ∃ y : Nat, x = (y : Int) := ⟨x.toNat, by omega⟩
      have hy2 : y < u.size := by omega
      have hy3 : y < v.size := by omega
      subst hBe
      have hsub : IntKind.i64.wrap ((u.size : Int) - (y : Int)) = (u.size : Int) - (y : Int) := IntWalk.i64_in _ ⟨by omega, by omega⟩
      have hsz : (v.extract y v.size).size = v.size - y := by rw [ByteArray.size_extract]; omega
      have hyle : y ≤ v.size := by omega
      have hws : w.heap.size + 1 ≤ wr.heap.size := by have := hO.lt g rfl; omega
      rw [show acP u v i j (y : Int) = (u ++ v.extract y v.size, (i : Int), 0, (j : Int), (u.size : Int) - (y : Int)) from rfl] at hT
      have Hx := Lib.hid hx
      clear hx
      have HT := Lib.hid hT
      clear hT
      have HR := Lib.hid hR
      clear hR
      have HA := Lib.hid hA
      clear hA
      have HW := Lib.hid hW
      clear hW
      have Hbl9 := Lib.hid hbl9
      clear hbl9
      go_wp2_with (at_builtin; refine wpList_app5 _ wr _ rfl rfl _ _ 47 rfl (w.heap.size + 1) 77 5 48 _ Tryz.underlying47 info_Pair rfl (by omega) _ _ _ _ rfl rfl rfl hO rfl (one_cell_pair1 _ _ _ _ _) (by omega) (by unfold maxLen; omega) (by omega) ?_; intro g5 c5 w5 hO5 hW5 hG5 hat5)
      have hW6 := HW.out.trans (hW5.mono (by omega))
      have hO6 : w5.ownsRow (w.heap.size + 1) 77 5 (.slice (some ⟨g5, 0, none⟩) (q + 1) c5) (q + 1) (cellsPair ((P.take (q + 1)).map (acP u v i j))) := by rw [HT.out, cellsPair_snoc1]; exact hO5
      have hR6 := HA.out.rd HR.out hG5
      have hA6 := HA.out.next (n := q + 1) (c := c5) hG5 hat5
      clear hO5 hW5 hG5 hat5 HW HR HA hO
      have HR6 := Lib.hid hR6
      clear hR6
      have HA6 := Lib.hid hA6
      clear hA6
      have HW6 := Lib.hid hW6
      clear hW6
      have HO6 := Lib.hid hO6
      clear hO6
      go_wp2_with fail
      go_roundw
      case rel => exact ⟨q + 1, g5, c5, by omega, by go_num, rfl, HO6.out, HW6.out, HR6.out, HA6.out⟩
      case measure => simp [intOf] <;> omega
    · have : q = z := by omega
      subst this
      have hT : P.take q = P := List.take_of_length_le (by rw [← Hz.out]; exact Nat.le_refl _)
      rw [hT] at hO
      have HT := Lib.hid hT
      clear hT
      have HR := Lib.hid hR
      clear hR
      have HA := Lib.hid hA
      clear hA
      go_wp2_with fail
      go_ret
      exact ⟨_, d', rfl, own_mono hO (by omega), hW⟩

set_option maxRecDepth 100000 in
set_option maxHeartbeats 4000000 in
theorem specPairsOf_any (l : Int) (A : Option Addr) (n c : Nat) (rs : List RuleT) (w : World) (hr : Rd w A (cellsRule rs)) (hn : n = rs.length) (hb : n ≤ 1048576) (hz : ∀ x ∈ rs, x.1.size ≤ 1048576 ∧ x.2.size ≤ 1048576) :
    Calls Tryz.prog 77 #[.agg #[.int .i64 l, .slice A n c]] w (MadeSl w 77 5 (prAll l rs).length (cellsPair (prAll l rs))) := by
  have hW0 : Below w.heap.size w (w.alloc (.cells #[.int .i64 l, .slice A n c] 25)) := (Below.refl _ _).alloc (Nat.le_refl _) _
  have hS0 := Bk.new w 25 #[.int .i64 l, .slice A n c]
  have Hr := Lib.hid hr
  clear hr
  have Hn := Lib.hid hn
  clear hn
  have Hz := Lib.hid hz
  clear hz
  go_enter Tryz.func77, Tryz.ntmps77
  go_wp2_with fail
  with_reducible refine (specSystemOk_any l A n c rs _ (Hr.out.keep hW0) Hn.out hb Hz.out).mono ?_
  rintro e w1 ⟨rfl, b1⟩
  have hW1 := hW0.trans (b1.mono hW0.size)
  have hS1 := hS0.below b1 hS0.lt
  have s0_1 : w1.cell? ⟨w.heap.size, 0, none⟩ = some (.int .i64 l) := by rw [hS1.cell]; rfl
  have s1_1 : w1.cell? ⟨w.heap.size, 1, none⟩ = some (.slice A n c) := by rw [hS1.cell]; rfl
  have sl_1 := hS1.lt
  clear b1
  obtain ⟨r1, hrr⟩ : ∃ r', r' = (systemOk l rs) := ⟨_, rfl⟩
  rw [← hrr]
  have H1 := Lib.hid hrr
  clear hrr
  cases r1
  · have e1 : prAll l rs = [] := by rw [prAll, ← H1.out]; rfl
    have E1 := Lib.hid e1
    clear e1
    go_wp2_with fail
    go_ret
    rw [E1.out]
    exact ⟨none, 0, rfl, World.ownsRow_nil _ _ _ _, hW1⟩
  have hro : rulesOk l rs = true := by have h := H1.out.symm; unfold systemOk at h; rw [Bool.and_eq_true] at h; exact h.1
  have h8 := rules_16 hro
  have h12 := rulesOk_12 hro
  have hne : ∀ k, k < rs.length → (ruleAt rs k).1 ≠ ⟨#[]⟩ := fun k hk => rules_ne hro hk
  have hn12 : n ≤ 12 := by rw [Hn.out]; exact h12
  have e1 : prAll l rs = prAcc rs n := by rw [prAll, ← H1.out, Hn.out]; rfl
  obtain ⟨g0, hg0⟩ : ∃ g, g = w1.heap.size := ⟨_, rfl⟩
  have hO0 := own_of_bk (base := g0) (m := 5) (n := 0) ((Bk.new w1 77 #[]).cast (g' := g0) hg0.symm) (Nat.le_refl _) rfl (by unfold maxLen; omega)
  have hW2 := hW1.alloc hW1.size (.cells #[] 77)
  have hS2 := hS1.alloc (.cells #[] 77)
  have hgw : w.heap.size < g0 := by rw [hg0]; exact sl_1
  obtain ⟨i9, hi, hz0, hz1, hz2⟩ := info_parts info_Pair
  have h00 : cellsPair (prAcc rs 0) = (#[] : Array Value).toList := by simp [prAcc, cellsPair]
  clear hW1 hS1 
  have Hro := Lib.hid hro
  clear hro
  have H8 := Lib.hid h8
  clear h8
  have H12 := Lib.hid h12
  clear h12
  have Hne := Lib.hid hne
  clear hne
  have E1 := Lib.hid e1
  clear e1
  have HO0 := Lib.hid hO0
  clear hO0
  have HW2 := Lib.hid hW2
  clear hW2
  have HS2 := Lib.hid hS2
  clear hS2
  have H00 := Lib.hid h00
  clear h00
  go_wp2_with fail
  rw [← hg0]
  clear s0_1 s1_1 sl_1
  have Hg0 := Lib.hid hg0
  clear hg0
  go_loopw [3, 13] (fun v iv wr => ∃ (i : Nat) (B : Option Addr) (d m : Nat), i ≤ n ∧ iv = .int .i64 (i : Int) ∧ v = .slice B m d ∧ g0 ≤ wr.heap.size ∧ Hid (m = (prAcc rs i).length) ∧ Bk wr w.heap.size 25 #[.int .i64 l, .slice A n c] ∧ wr.ownsRow g0 77 5 (.slice B m d) m (cellsPair (prAcc rs i)) ∧ Below w.heap.size w wr) (fun _ iv _ => n - (intOf iv).toNat)
  case atStart => exact ⟨0, some ⟨g0, 0, none⟩, 0, 0, Nat.zero_le _, rfl, rfl, by rw [Hg0.out]; simp, Lib.hid rfl, HS2.out, by rw [H00.out]; exact HO0.out, HW2.out⟩
  case round =>
    clear HO0 HW2 HS2 H00 
    obtain ⟨i, B, d, m, hi1, rfl, rfl, hgl, HM, hS, hO, hW⟩ := hrel
    by_cases hlt : i < n
    · have s0 : wr.cell? ⟨w.heap.size, 0, none⟩ = some (.int .i64 l) := by rw [hS.cell]; rfl
      have s1 : wr.cell? ⟨w.heap.size, 1, none⟩ = some (.slice A n c) := by rw [hS.cell]; rfl
      have sl := hS.lt
      have hO1 : wr.ownsRow g0 77 5 (.slice B m d) m (cellsPair (prTo rs i 0)) := by rw [prTo_zero]; exact hO
      have hM1 : m = (prTo rs i 0).length := by rw [prTo_zero]; exact HM.out
      clear hO HM
      have HS := Lib.hid hS
      clear hS
      have HO1 := Lib.hid hO1
      clear hO1
      have HW := Lib.hid hW
      clear hW
      have HM1 := Lib.hid hM1
      clear hM1
      go_wp2_with fail
      go_loopw [3, 19] (fun v iv wr => ∃ (j : Nat) (B : Option Addr) (d m : Nat), j ≤ n ∧ iv = .int .i64 (j : Int) ∧ v = .slice B m d ∧ g0 ≤ wr.heap.size ∧ Hid (m = (prTo rs i j).length) ∧ Bk wr w.heap.size 25 #[.int .i64 l, .slice A n c] ∧ wr.ownsRow g0 77 5 (.slice B m d) m (cellsPair (prTo rs i j)) ∧ Below w.heap.size w wr) (fun _ iv _ => n - (intOf iv).toNat)
      case atStart => exact ⟨0, B, d, m, Nat.zero_le _, rfl, rfl, hgl, HM1, HS.out, HO1.out, HW.out⟩
      case round =>
        clear HO1 HS HW HM1 s0 s1 sl
        obtain ⟨j, B, d, m, hj1, rfl, rfl, hgl, HM, hS, hO, hW⟩ := hrel
        by_cases hltj : j < n
        · have s0 : wr.cell? ⟨w.heap.size, 0, none⟩ = some (.int .i64 l) := by rw [hS.cell]; rfl
          have s1 : wr.cell? ⟨w.heap.size, 1, none⟩ = some (.slice A n c) := by rw [hS.cell]; rfl
          have sl := hS.lt
          have hml : m ≤ 6240 := by rw [HM.out]; exact prTo_len H8.out H12.out (by omega) (by omega)
          have hIl : (insideL rs i j).length ≤ 17 := Nat.le_trans insideL_len (by have := H8.out i; omega)
          have hAl : (acrossL rs i j).length ≤ 16 := Nat.le_trans acrossL_len (H8.out i)
          have hIn := fun (W : World) (hw : Rd W A (cellsRule rs)) => specInside_any l A n c rs i j W hw Hn.out hn12 H8.out Hne.out hlt hltj
          have hAc := fun (W : World) (hw : Rd W A (cellsRule rs)) => specAcross_any l A n c rs i j W hw Hn.out hn12 H8.out hlt hltj
          obtain ⟨X, hX⟩ : ∃ X, X = insideL rs i j := ⟨_, rfl⟩
          obtain ⟨Y, hY⟩ : ∃ X, X = acrossL rs i j := ⟨_, rfl⟩
          rw [← hX] at hIl hIn
          rw [← hY] at hAl hAc
          obtain ⟨mx, hmx⟩ : ∃ m, m = X.length := ⟨_, rfl⟩
          obtain ⟨my, hmy⟩ : ∃ m, m = Y.length := ⟨_, rfl⟩
          rw [← hmx] at hIl hIn
          rw [← hmy] at hAl hAc
          have hT : prTo rs i (j + 1) = prTo rs i j ++ X ++ Y := by rw [prTo_succ, prCell, ← hX, ← hY, List.append_assoc]
          have hr1 := Hr.out.keep hW
          have HS := Lib.hid hS
          clear hS
          have HO := Lib.hid hO
          clear hO
          have HW := Lib.hid hW
          clear hW
          have HT := Lib.hid hT
          clear hT
          have HX := Lib.hid hX
          clear hX
          have HY := Lib.hid hY
          clear hY
          have Hmx := Lib.hid hmx
          clear hmx
          have Hmy := Lib.hid hmy
          clear hmy
          have HIn := Lib.hid hIn
          clear hIn
          have HAc := Lib.hid hAc
          clear hAc
          go_wp2_with fail
          refine (HIn.out _ hr1).mono ?_
          rintro e w5 ⟨a5, d5, rfl, hO5, b5⟩
          have hS5 := HS.out.below b5 HS.out.lt
          have hW5 := HW.out.trans (b5.mono HW.out.size)
          have hO15 := own_keep HO.out b5 (Nat.le_refl _)
          have hR5 : Rd w5 (some a5) (cellsPair X) := Rd.of_own hO5
          have hl5 : (cellsPair X).length = mx * 5 := hO5.1
          have hcells : ∀ q u, (cellsPair X)[q]? = some u → w5.cell? (a5.add q) = some u := by
            intro q u hu
            obtain ⟨b', o', e', _, hc⟩ := hR5 (by intro e; rw [e] at hu; cases hu)
            injection e' with e'
            subst e'
            have e'' : (⟨b', o', none⟩ : Addr).add q = ⟨b', o' + q, none⟩ := by unfold Addr.add; split <;> simp_all
            rw [e'', ← hc q u hu]
          have hb5 : g0 ≤ w5.heap.size := Nat.le_trans hgl b5.size
          clear hR5 b5 HS HO HW hr1 s0 s1 sl
          have HO15 := Lib.hid hO15
          clear hO15
          have HS5 := Lib.hid hS5
          clear hS5
          have HW5 := Lib.hid hW5
          clear hW5
          have Hcells := Lib.hid hcells
          clear hcells
          have HO5 := Lib.hid hO5
          clear hO5
          go_wp2_with (at_builtin; refine wpList_append_own _ rfl _ _ 47 rfl g0 77 i9 _ 5 48 Tryz.underlying47 hi hz0 hz1 hz2 rfl (by omega) (.slice B m d) m _ rfl HO15.out a5 mx d5 (cellsPair X) rfl hl5 Hcells.out (one_cell_pairs X) (by unfold maxLen; omega) (by omega) hb5 ?_; intro v6 w6 hO6 hG6 hX6; (obtain ⟨A6, c6, rfl⟩ := own_form hO6); (have hS6 := HS5.out.grown hG6 (by intro e; (have := (HO15.out.lt _ e.symm).1); omega)); (have hW6 := HW5.out.grown hG6 HW5.out.size (fun k hk => by (have := (HO15.out.lt k hk).1); omega)); (have t0 : w6.cell? ⟨w.heap.size, 0, none⟩ = some (.int .i64 l) := by rw [hS6.cell]; rfl); (have t1 : w6.cell? ⟨w.heap.size, 1, none⟩ = some (.slice A n c) := by rw [hS6.cell]; rfl); (have tl := hS6.lt); (have hr6 := Hr.out.keep hW6); (have HS6 := Lib.hid hS6); (clear hS6); (have HW6 := Lib.hid hW6); (clear hW6); (have HO6 := Lib.hid hO6); (clear hO6); (clear hX6))
          refine (HAc.out _ hr6).mono ?_
          rintro e w7 ⟨a7, d7, rfl, hO7, b7⟩
          have hO67 := own_keep HO6.out b7 (Nat.le_refl _)
          have hS7 := HS6.out.below b7 HS6.out.lt
          have hW7 := HW6.out.trans (b7.mono HW6.out.size)
          have hR7 : Rd w7 (some a7) (cellsPair Y) := Rd.of_own hO7
          have hl7 : (cellsPair Y).length = my * 5 := hO7.1
          have hcells7 : ∀ q u, (cellsPair Y)[q]? = some u → w7.cell? (a7.add q) = some u := by
            intro q u hu
            obtain ⟨b', o', e', _, hc⟩ := hR7 (by intro e; rw [e] at hu; cases hu)
            injection e' with e'
            subst e'
            have e'' : (⟨b', o', none⟩ : Addr).add q = ⟨b', o' + q, none⟩ := by unfold Addr.add; split <;> simp_all
            rw [e'', ← hc q u hu]
          have hb7 : g0 ≤ w7.heap.size := by have := hG6.size; have := b7.size; omega
          clear hG6 hR7 b7 HS6 HW6 hr6 t0 t1 tl HO15 HS5 HW5
          have HO67 := Lib.hid hO67
          clear hO67
          have HS7 := Lib.hid hS7
          clear hS7
          have HW7 := Lib.hid hW7
          clear hW7
          have Hcells7 := Lib.hid hcells7
          clear hcells7
          have HO7 := Lib.hid hO7
          clear hO7
          go_wp2_with (at_builtin; refine wpList_append_own _ rfl _ _ 47 rfl g0 77 i9 _ 5 48 Tryz.underlying47 hi hz0 hz1 hz2 rfl (by omega) (.slice A6 (m + mx) c6) (m + mx) _ rfl HO67.out a7 my d7 (cellsPair Y) rfl hl7 Hcells7.out (one_cell_pairs Y) (by unfold maxLen; omega) (by omega) hb7 ?_; intro v8 w8 hO8 hG8 hX8)
          obtain ⟨A8, c8, rfl⟩ := own_form hO8
          have hS8 := HS7.out.grown hG8 (by intro e; (have := (HO67.out.lt _ e.symm).1); omega)
          have hW8 := HW7.out.grown hG8 HW7.out.size (fun k hk => by (have := (HO67.out.lt k hk).1); omega)
          have hb8 : g0 ≤ w8.heap.size := Nat.le_trans hb7 hG8.size
          have hO9 : w8.ownsRow g0 77 5 (.slice A8 (m + mx + my) c8) (m + mx + my) (cellsPair (prTo rs i (j + 1))) := by rw [HT.out, cellsPair_app, cellsPair_app]; exact hO8
          have hM9 : m + mx + my = (prTo rs i (j + 1)).length := by rw [HT.out, List.length_append, List.length_append, ← HM.out, ← Hmx.out, ← Hmy.out]
          clear hO8 hG8 hX8 HO67 HS7 HW7
          have HS8 := Lib.hid hS8
          clear hS8
          have HW8 := Lib.hid hW8
          clear hW8
          have HO9 := Lib.hid hO9
          clear hO9
          have HM9 := Lib.hid hM9
          clear hM9
          go_wp2_with fail
          go_roundw
          case rel => exact ⟨j + 1, A8, c8, m + mx + my, by omega, by go_num, rfl, hb8, HM9, HS8.out, HO9.out, HW8.out⟩
          case measure => simp [intOf] <;> omega
        · have : j = n := by omega
          subst this
          have hO9 : wr.ownsRow g0 77 5 (.slice B m d) m (cellsPair (prAcc rs (i + 1))) := by rw [prAcc_succ, ← Hn.out]; exact hO
          have hM9 : m = (prAcc rs (i + 1)).length := by rw [prAcc_succ, ← Hn.out]; exact HM.out
          clear hO HM
          have HO9 := Lib.hid hO9
          clear hO9
          have HM9 := Lib.hid hM9
          clear hM9
          have HS := Lib.hid hS
          clear hS
          have HW := Lib.hid hW
          clear hW
          go_wp2_with fail
          go_roundw
          case rel => exact ⟨i + 1, B, d, m, by omega, by go_num, rfl, hgl, HM9, HS.out, HO9.out, HW.out⟩
          case measure => simp [intOf] <;> omega
    · have : i = n := by omega
      subst this
      have HO := Lib.hid hO
      clear hO
      have HS := Lib.hid hS
      clear hS
      have HW := Lib.hid hW
      clear hW
      go_wp2_with fail
      go_ret
      rw [E1.out, ← HM.out]
      exact ⟨B, d, rfl, own_mono HO.out (by omega), HW.out⟩

end Go.Proofs.YteafeecndghapaaGreat
