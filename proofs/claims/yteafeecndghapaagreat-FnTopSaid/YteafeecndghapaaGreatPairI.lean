/- Walks over pairs and PairsOf of the program. -/
import Derived.Test.YteafeecndghapaaGreatPairS
import Derived.Deep.RegionLaw
namespace Go.Proofs.YteafeecndghapaaGreat
open Go.RowKit Go.Shelf

/-- The pairs of two rules of which one is inside of the other one, of the first q places. -/
def insTo (u : ByteArray) (i j : Nat) (P : List Int) (q : Nat) : List PairT := if i = j then [] else (P.take q).map (inP u i j)
/-- What stays in the loops over two rules: the system's box, the boxes of the two rules, and that the slice V lies apart from them. -/
def PrK (w wr : World) (l : Int) (A : Option Addr) (n c br : Nat) (u u1 : ByteArray) (bo : Nat) (v v1 : ByteArray) (V : Value) : Prop :=
  Bk wr w.heap.size 25 #[.int .i64 l, .slice A n c] ∧ Bk wr br 68 #[.string u, .string u1] ∧ Bk wr bo 68 #[.string v, .string v1] ∧ Apt V (some ⟨br, 0, none⟩) wr ∧ Apt V (some ⟨bo, 0, none⟩) wr ∧ Below w.heap.size w wr
theorem PrK.below {w wr w' : World} {l : Int} {A : Option Addr} {n c br : Nat} {u u1 : ByteArray} {bo : Nat} {v v1 : ByteArray} {V : Value} (h : PrK w wr l A n c br u u1 bo v v1 V) (hb : Below wr.heap.size wr w') : PrK w w' l A n c br u u1 bo v v1 V :=
  ⟨h.1.below hb h.1.lt, h.2.1.below hb h.2.1.lt, h.2.2.1.below hb h.2.2.1.lt, h.2.2.2.1.below hb, h.2.2.2.2.1.below hb, h.2.2.2.2.2.trans (hb.mono h.2.2.2.2.2.size)⟩
theorem PrK.next {w wr w' : World} {l : Int} {A : Option Addr} {n c br : Nat} {u u1 : ByteArray} {bo : Nat} {v v1 : ByteArray} {V : Value} {g m d : Nat} (h : PrK w wr l A n c br u u1 bo v v1 V) (hW : Below (w.heap.size + 1) wr w') (hG : wr.grownBy w' V.ownBlock) (hat : V.ownBlock = some g ∨ wr.heap.size ≤ g) : PrK w w' l A n c br u u1 bo v v1 (.slice (some ⟨g, 0, none⟩) m d) :=
  ⟨h.1.below hW (by omega), h.2.2.2.1.bk h.2.1 hG, h.2.2.2.2.1.bk h.2.2.1 hG, h.2.2.2.1.next hG hat, h.2.2.2.2.1.next hG hat, h.2.2.2.2.2.trans (hW.mono (by omega))⟩

set_option maxRecDepth 100000 in
set_option maxHeartbeats 8000000 in
theorem implPairs_any (l : Int) (A : Option Addr) (n c : Nat) (rs : List RuleT) (w : World) (hr : Rd w A (cellsRule rs)) (hn : n = rs.length) (hb : n ≤ 12) (h8 : ∀ k, (ruleAt rs k).1.size ≤ 16) (hne : ∀ k, k < rs.length → (ruleAt rs k).1 ≠ ⟨#[]⟩) :
    Calls Tryz.prog 70 #[.agg #[.int .i64 l, .slice A n c]] w (MadeSl w 77 5 (prAcc rs n).length (cellsPair (prAcc rs n))) := by
  have hW0 : Below w.heap.size w (w.alloc (.cells #[.int .i64 l, .slice A n c] 25)) := (Below.refl _ _).alloc (Nat.le_refl _) _
  have hS0 := Bk.new w 25 #[.int .i64 l, .slice A n c]
  have s0_0 : (w.alloc (.cells #[.int .i64 l, .slice A n c] 25)).cell? ⟨w.heap.size, 0, none⟩ = some (.int .i64 l) := by rw [hS0.cell]; rfl
  have s1_0 : (w.alloc (.cells #[.int .i64 l, .slice A n c] 25)).cell? ⟨w.heap.size, 1, none⟩ = some (.slice A n c) := by rw [hS0.cell]; rfl
  have sl_0 := hS0.lt
  have h00 : cellsPair (prAcc rs 0) = [] := by simp [prAcc, cellsPair]
  have Hr := Lib.hid hr
  clear hr
  have Hn := Lib.hid hn
  clear hn
  have H8 := Lib.hid h8
  clear h8
  have Hne := Lib.hid hne
  clear hne
  have HW0 := Lib.hid hW0
  clear hW0
  have HS0 := Lib.hid hS0
  clear hS0
  have H00 := Lib.hid h00
  clear h00
  go_enter Tryz.func70, Tryz.ntmps70
  go_wp2_with fail
  clear s0_0 s1_0 sl_0
  go_loopw [3, 16] (fun v iv wr => ∃ (i : Nat) (B : Option Addr) (d m : Nat), i ≤ n ∧ iv = .int .i64 (i : Int) ∧ v = .slice B m d ∧ Hid (m = (prAcc rs i).length) ∧ Bk wr w.heap.size 25 #[.int .i64 l, .slice A n c] ∧ wr.ownsRow (w.heap.size + 1) 77 5 (.slice B m d) m (cellsPair (prAcc rs i)) ∧ Below w.heap.size w wr) (fun _ iv _ => n - (intOf iv).toNat)
  case atStart => exact ⟨0, none, 0, 0, Nat.zero_le _, rfl, rfl, Lib.hid rfl, HS0.out, by rw [H00.out]; exact World.ownsRow_nil _ _ _ _, HW0.out⟩
  case round =>
    clear HW0 HS0 H00
    obtain ⟨i, B, d, m, hi1, rfl, rfl, HM, hS, hO, hW⟩ := hrel
    by_cases hlt : i < n
    · have s0 : wr.cell? ⟨w.heap.size, 0, none⟩ = some (.int .i64 l) := by rw [hS.cell]; rfl
      have s1 : wr.cell? ⟨w.heap.size, 1, none⟩ = some (.slice A n c) := by rw [hS.cell]; rfl
      have sl := hS.lt
      have hi2 : i < rs.length := by rw [← Hn.out]; exact hlt
      obtain ⟨b, o, rfl, hbl, p0, p1⟩ := rd_Rule (Hr.out.keep hW) hi2
      have hu8 := H8.out i
      rw [ruleAt_get hi2] at hu8
      obtain ⟨⟨u, u1⟩, hu⟩ : ∃ u, u = rs[i] := ⟨_, rfl⟩
      rw [← hu] at p0 p1 hu8
      dsimp only at p0 p1 hu8
      obtain ⟨br, hbr⟩ : ∃ b, b = wr.heap.size := ⟨_, rfl⟩
      have hS1 := hS.alloc (.cells #[.string u, .string u1] 68)
      have hW1 := hW.alloc hW.size (.cells #[.string u, .string u1] 68)
      have hB1 := (Bk.new wr 68 #[.string u, .string u1]).cast hbr.symm
      have hA1 := Apt.new hO (.cells #[.string u, .string u1] 68)
      rw [← hbr] at hA1
      have hO1 : (wr.alloc (.cells #[.string u, .string u1] 68)).ownsRow (w.heap.size + 1) 77 5 (.slice B m d) m (cellsPair (prTo rs i 0)) := by rw [prTo_zero]; exact hO.alloc _
      have hM1 : m = (prTo rs i 0).length := by rw [prTo_zero]; exact HM.out
      have t0 : (wr.alloc (.cells #[.string u, .string u1] 68)).cell? ⟨w.heap.size, 0, none⟩ = some (.int .i64 l) := by rw [hS1.cell]; rfl
      have t1 : (wr.alloc (.cells #[.string u, .string u1] 68)).cell? ⟨w.heap.size, 1, none⟩ = some (.slice (some ⟨b, o, none⟩) n c) := by rw [hS1.cell]; rfl
      have tl := hS1.lt
      clear hO HM
      have HS1 := Lib.hid hS1
      clear hS1
      have HO1 := Lib.hid hO1
      clear hO1
      have HW1 := Lib.hid hW1
      clear hW1
      have HM1 := Lib.hid hM1
      clear hM1
      have HA1 := Lib.hid hA1
      clear hA1
      have HB1 := Lib.hid hB1
      clear hB1
      have Hu := Lib.hid hu
      clear hu
      have Hbr := Lib.hid hbr
      clear hbr
      go_wp2_with fail
      clear hS hW s0 s1 sl p0 p1 t0 t1 tl hbl
      try rw [← Hbr.out]
      go_loopw [3, 24] (fun v iv wr => ∃ (j : Nat) (B : Option Addr) (d m : Nat), j ≤ n ∧ iv = .int .i64 (j : Int) ∧ v = .slice B m d ∧ Hid (m = (prTo rs i j).length) ∧ Bk wr w.heap.size 25 #[.int .i64 l, .slice (some ⟨b, o, none⟩) n c] ∧ Bk wr br 68 #[.string u, .string u1] ∧ Apt (.slice B m d) (some ⟨br, 0, none⟩) wr ∧ wr.ownsRow (w.heap.size + 1) 77 5 (.slice B m d) m (cellsPair (prTo rs i j)) ∧ Below w.heap.size w wr) (fun _ iv _ => n - (intOf iv).toNat)
      case atStart => exact ⟨0, B, d, m, Nat.zero_le _, rfl, rfl, HM1, HS1.out, HB1.out, HA1.out, HO1.out, HW1.out⟩
      case round =>
        clear HO1 HS1 HW1 HM1 HA1 HB1 Hbr
        obtain ⟨j, B, d, m, hj1, rfl, rfl, HM, hS, hB, hA, hO, hW⟩ := hrel
        by_cases hltj : j < n
        · have s0 : wr.cell? ⟨w.heap.size, 0, none⟩ = some (.int .i64 l) := by rw [hS.cell]; rfl
          have s1 : wr.cell? ⟨w.heap.size, 1, none⟩ = some (.slice (some ⟨b, o, none⟩) n c) := by rw [hS.cell]; rfl
          have sl := hS.lt
          have hj2 : j < rs.length := by rw [← Hn.out]; exact hltj
          obtain ⟨b', o', e', hbl, r0, r1⟩ := rd_Rule (Hr.out.keep hW) hj2
          injection e' with e'
          injection e' with e1 e2 _
          subst e1 e2
          have hv8 := H8.out j
          have hvne := Hne.out j hj2
          rw [ruleAt_get hj2] at hv8 hvne
          obtain ⟨⟨v, v1⟩, hv⟩ : ∃ u, u = rs[j] := ⟨_, rfl⟩
          rw [← hv] at r0 r1 hv8 hvne
          dsimp only at r0 r1 hv8 hvne
          have hml : m ≤ 6240 := by rw [HM.out]; exact prTo_len H8.out (by rw [← Hn.out]; exact hb) (by omega) (by omega)
          obtain ⟨bo, hbo⟩ : ∃ b, b = wr.heap.size := ⟨_, rfl⟩
          have hO1 := hO.alloc (.cells #[.string v, .string v1] 68)
          have hK1 : PrK w (wr.alloc (.cells #[.string v, .string v1] 68)) l (some ⟨b, o, none⟩) n c br u u1 bo v v1 (.slice B m d) := ⟨hS.alloc _, hB.alloc _, (Bk.new wr _ _).cast hbo.symm, hA.below ((Below.refl _ _).alloc (Nat.le_refl _) _), by have h := Apt.new hO (.cells #[.string v, .string v1] 68); rwa [← hbo] at h, hW.alloc hW.size _⟩
          have k0 : (wr.alloc (.cells #[.string v, .string v1] 68)).cell? ⟨br, 0, none⟩ = some (.string u) := by rw [hK1.2.1.cell]; rfl
          have k1 : (wr.alloc (.cells #[.string v, .string v1] 68)).cell? ⟨bo, 0, none⟩ = some (.string v) := by rw [hK1.2.2.1.cell]; rfl
          have k2 := hK1.2.1.lt
          have k3 := hK1.2.2.1.lt
          have hE : insideL rs i j = insTo u i j (pls u v) (pls u v).length := by rw [insideL, insTo, ruleAt_get hi2, ruleAt_get hj2, ← Hu.out, ← hv, List.take_length]
          have hE2 : acrossL rs i j = (ovs u v).map (acP u v i j) := by rw [acrossL, ruleAt_get hi2, ruleAt_get hj2, ← Hu.out, ← hv]
          have hPl : (pls u v).length ≤ 17 := Nat.le_trans (plc_len _ _ _) (by omega)
          have hPl2 : (ovs u v).length ≤ 16 := by
            have := ovl_len u v (ovN u v)
            unfold ovs
            unfold ovN at *
            omega
          have hPin : ∀ x ∈ ovs u v, 1 ≤ x ∧ x < u.size ∧ x < v.size := fun x hx => ovs_in hx
          have hPo : ∀ W : World, Calls Tryz.prog 85 #[.string u, .string v] W (MadeSl W 3 1 (pls u v).length (ints (pls u v))) := fun W => implPlaces_any u v W (by omega) (by omega) hvne
          have hOv : ∀ W : World, Calls Tryz.prog 86 #[.string u, .string v] W (MadeSl W 3 1 (ovs u v).length (ints (ovs u v))) := fun W => implOverlaps_any u v W (by omega) (by omega)
          obtain ⟨P, hP⟩ : ∃ P, P = pls u v := ⟨_, rfl⟩
          obtain ⟨P2, hP2⟩ : ∃ P, P = ovs u v := ⟨_, rfl⟩
          rw [← hP] at hE hPl hPo
          rw [← hP2] at hE2 hPl2 hOv hPin
          obtain ⟨z, hz⟩ : ∃ z, z = P.length := ⟨_, rfl⟩
          obtain ⟨z2, hz2⟩ : ∃ z, z = P2.length := ⟨_, rfl⟩
          rw [← hz] at hPl hPo hE
          rw [← hz2] at hPl2 hOv
          obtain ⟨X0, hX0⟩ : ∃ X, X = prTo rs i j := ⟨_, rfl⟩
          have hT : prTo rs i (j + 1) = X0 ++ insTo u i j P z ++ P2.map (acP u v i j) := by rw [prTo_succ, prCell, hE, hE2, ← hX0, List.append_assoc]
          have hm0 : m = (X0 ++ insTo u i j P 0).length := by rw [List.length_append, hX0, ← HM.out]; unfold insTo; split <;> simp
          have hc0 : cellsPair (prTo rs i j) = cellsPair (X0 ++ insTo u i j P 0) := by rw [hX0]; unfold insTo; split <;> simp
          rw [hc0] at hO1
          clear hE hE2 hO HM hc0
          have Hv := Lib.hid hv
          clear hv
          have Hbo := Lib.hid hbo
          clear hbo
          have HO1 := Lib.hid hO1
          clear hO1
          have HK1 := Lib.hid hK1
          clear hK1
          have HPo := Lib.hid hPo
          clear hPo
          have HOv := Lib.hid hOv
          clear hOv
          have HP := Lib.hid hP
          clear hP
          have HP2 := Lib.hid hP2
          clear hP2
          have Hz := Lib.hid hz
          clear hz
          have Hz2 := Lib.hid hz2
          clear hz2
          have HX0 := Lib.hid hX0
          clear hX0
          have HT := Lib.hid hT
          clear hT
          have Hm0 := Lib.hid hm0
          clear hm0
          have Hvne := Lib.hid hvne
          clear hvne
          have HPin := Lib.hid hPin
          clear hPin
          go_wp2_with fail
          clear hS hB hA hW s0 s1 sl r0 r1 hbl
          try rw [← Hbo.out]
          refine (HPo.out _).mono ?_
          rintro e w3 ⟨B3, d3, rfl, hOp, b3⟩
          have hK3 := HK1.out.below b3
          have hO3 := own_keep HO1.out b3 (Nat.le_refl _)
          have hA3 : Apt (.slice B m d) B3 w3 := Apt.of_own hOp (fun k hk => (HO1.out.lt k hk).2)
          have hR3 := Rd.of_own hOp
          clear HO1 HK1 b3 hOp k0 k1 k2 k3 Hbo
          have HK3 := Lib.hid hK3
          clear hK3
          have HO3 := Lib.hid hO3
          clear hO3
          have HA3 := Lib.hid hA3
          clear hA3
          have HR3 := Lib.hid hR3
          clear hR3
          go_wp2_with fail
          go_loopw [3, 35] (fun V iv wr => ∃ (q : Nat) (B : Option Addr) (d m : Nat), q ≤ z ∧ iv = .int .i64 (q : Int) ∧ V = .slice B m d ∧ m ≤ 6240 + q ∧ Hid (m = (X0 ++ insTo u i j P q).length) ∧ PrK w wr l (some ⟨b, o, none⟩) n c br u u1 bo v v1 (.slice B m d) ∧ Rd wr B3 (ints P) ∧ Apt (.slice B m d) B3 wr ∧ wr.ownsRow (w.heap.size + 1) 77 5 (.slice B m d) m (cellsPair (X0 ++ insTo u i j P q))) (fun _ iv _ => z - (intOf iv).toNat)
          case atStart => exact ⟨0, B, d, m, Nat.zero_le _, rfl, rfl, hml, Hm0, HK3.out, HR3.out, HA3.out, HO3.out⟩
          case round =>
            clear HO3 HK3 HR3 HA3 Hm0
            obtain ⟨q, B, d, m, hq, rfl, rfl, hmq, HM, hK, hR, hA, hO⟩ := hrel
            by_cases hltq : q < z
            · have hqP : q < P.length := by rw [← Hz.out]; exact hltq
              obtain ⟨b9, o9, hBe, hbl9, k9⟩ := rd_I hR hqP
              obtain ⟨x, hx⟩ : ∃ x, x = P[q] := ⟨_, rfl⟩
              rw [← hx] at k9
              subst hBe
              by_cases hij : i = j
              · subst hij
                have hT2 : insTo u i i P (q + 1) = insTo u i i P q := by unfold insTo; rw [if_pos rfl, if_pos rfl]
                have Hx := Lib.hid hx
                clear hx
                have HR := Lib.hid hR
                clear hR
                have HA := Lib.hid hA
                clear hA
                have HK := Lib.hid hK
                clear hK
                have HT2 := Lib.hid hT2
                clear hT2
                have Hbl9 := Lib.hid hbl9
                clear hbl9
                have HO := Lib.hid hO
                clear hO
                go_wp2_with fail
                go_roundw
                case rel => exact ⟨q + 1, B, d, m, by omega, by go_num, rfl, by omega, by rw [HT2.out]; exact HM, HK.out, HR.out, HA.out, by rw [HT2.out]; exact HO.out⟩
                case measure => simp [intOf] <;> omega
              · have hij2 : ¬ (j : Int) = (i : Int) := by omega
                have hT2 : X0 ++ insTo u i j P (q + 1) = X0 ++ insTo u i j P q ++ [(u, (i : Int), 0, (j : Int), x)] := by
                  unfold insTo
                  rw [if_neg hij, if_neg hij, List.take_succ_eq_append_getElem hqP, List.map_append, ← hx, List.append_assoc]
                  rfl
                have k0 : wr.cell? ⟨br, 0, none⟩ = some (.string u) := by rw [hK.2.1.cell]; rfl
                have k2 := hK.2.1.lt
                have hws : w.heap.size + 1 ≤ wr.heap.size := hK.1.lt
                have Hx := Lib.hid hx
                clear hx
                have HR := Lib.hid hR
                clear hR
                have HA := Lib.hid hA
                clear hA
                have HK := Lib.hid hK
                clear hK
                have HT2 := Lib.hid hT2
                clear hT2
                have Hbl9 := Lib.hid hbl9
                clear hbl9
                go_wp2_with (at_builtin; refine wpList_app5 _ wr _ rfl rfl _ _ 47 rfl (w.heap.size + 1) 77 5 48 _ Tryz.underlying47 info_Pair rfl (by omega) _ _ _ _ rfl rfl rfl hO rfl (one_cell_pair1 _ _ _ _ _) (by omega) (by unfold maxLen; omega) (by omega) ?_; intro g5 c5 w5 hO5 hW5 hG5 hat5)
                have hK6 := HK.out.next (m := m + 1) (d := c5) hW5 hG5 hat5
                have hO6 : w5.ownsRow (w.heap.size + 1) 77 5 (.slice (some ⟨g5, 0, none⟩) (m + 1) c5) (m + 1) (cellsPair (X0 ++ insTo u i j P (q + 1))) := by rw [HT2.out, cellsPair_snoc1]; exact hO5
                have hR6 := HA.out.rd HR.out hG5
                have hA6 := HA.out.next (n := m + 1) (c := c5) hG5 hat5
                have hM6 : m + 1 = (X0 ++ insTo u i j P (q + 1)).length := by rw [HT2.out, List.length_append, ← HM.out]; rfl
                clear hO5 hW5 hG5 hat5 HK HR HA hO
                have HR6 := Lib.hid hR6
                clear hR6
                have HA6 := Lib.hid hA6
                clear hA6
                have HK6 := Lib.hid hK6
                clear hK6
                have HO6 := Lib.hid hO6
                clear hO6
                have HM6 := Lib.hid hM6
                clear hM6
                go_wp2_with fail
                go_roundw
                case rel => exact ⟨q + 1, some ⟨g5, 0, none⟩, c5, m + 1, by omega, by go_num, rfl, by omega, HM6, HK6.out, HR6.out, HA6.out, HO6.out⟩
                case measure => simp [intOf] <;> omega
            · have : q = z := by omega
              subst this
              have k0 : wr.cell? ⟨br, 0, none⟩ = some (.string u) := by rw [hK.2.1.cell]; rfl
              have k1 : wr.cell? ⟨bo, 0, none⟩ = some (.string v) := by rw [hK.2.2.1.cell]; rfl
              have k2 := hK.2.1.lt
              have k3 := hK.2.2.1.lt
              have hm1 : m = (X0 ++ insTo u i j P q ++ (P2.take 0).map (acP u v i j)).length := by rw [List.take_zero, List.map_nil, List.append_nil]; exact HM.out
              have hc1 : cellsPair (X0 ++ insTo u i j P q) = cellsPair (X0 ++ insTo u i j P q ++ (P2.take 0).map (acP u v i j)) := by rw [List.take_zero, List.map_nil, List.append_nil]
              rw [hc1] at hO
              obtain ⟨X1, hX1⟩ : ∃ X, X = X0 ++ insTo u i j P q := ⟨_, rfl⟩
              have hT9 := HT.out
              rw [← hX1] at hm1 hO hT9
              clear hR hA hc1 HM HT
              have HO := Lib.hid hO
              clear hO
              have HK := Lib.hid hK
              clear hK
              have Hm1 := Lib.hid hm1
              clear hm1
              have HX1 := Lib.hid hX1
              clear hX1
              have HT9 := Lib.hid hT9
              clear hT9
              go_wp2_with fail
              refine (HOv.out _).mono ?_
              rintro e w4 ⟨B4, d4, rfl, hOp, b4⟩
              have hK4 := HK.out.below b4
              have hO4 := own_keep HO.out b4 (Nat.le_refl _)
              have hA4 : Apt (.slice B m d) B4 w4 := Apt.of_own hOp (fun k hk => (HO.out.lt k hk).2)
              have hR4 := Rd.of_own hOp
              clear HO HK b4 hOp k0 k1 k2 k3
              have HK4 := Lib.hid hK4
              clear hK4
              have HO4 := Lib.hid hO4
              clear hO4
              have HA4 := Lib.hid hA4
              clear hA4
              have HR4 := Lib.hid hR4
              clear hR4
              go_wp2_with fail
              go_loopw [3, 60] (fun V iv wr => ∃ (q : Nat) (B : Option Addr) (d m : Nat), q ≤ z2 ∧ iv = .int .i64 (q : Int) ∧ V = .slice B m d ∧ m ≤ 6300 + q ∧ Hid (m = (X1 ++ (P2.take q).map (acP u v i j)).length) ∧ PrK w wr l (some ⟨b, o, none⟩) n c br u u1 bo v v1 (.slice B m d) ∧ Rd wr B4 (ints P2) ∧ Apt (.slice B m d) B4 wr ∧ wr.ownsRow (w.heap.size + 1) 77 5 (.slice B m d) m (cellsPair (X1 ++ (P2.take q).map (acP u v i j)))) (fun _ iv _ => z2 - (intOf iv).toNat)
              case atStart => exact ⟨0, B, d, m, Nat.zero_le _, rfl, rfl, by omega, Hm1, HK4.out, HR4.out, HA4.out, HO4.out⟩
              case round =>
                clear HO4 HK4 HR4 HA4 Hm1
                obtain ⟨q, B, d, m, hq, rfl, rfl, hmq, HM, hK, hR, hA, hO⟩ := hrel
                by_cases hltq : q < z2
                · have hqP : q < P2.length := by rw [← Hz2.out]; exact hltq
                  obtain ⟨b9, o9, hBe, hbl9, k9⟩ := rd_I hR hqP
                  have hxin := HPin.out P2[q] (List.getElem_mem hqP)
                  obtain ⟨x, hx⟩ : ∃ x, x = P2[q] := ⟨_, rfl⟩
                  rw [← hx] at k9 hxin
                  obtain ⟨hx1, hx2, hx3⟩ := hxin
                  obtain ⟨y, rfl⟩ : ∃ y : Nat, x = (y : Int) := ⟨x.toNat, by omega⟩
                  have hy2 : y < u.size := by omega
                  have hy3 : y < v.size := by omega
                  subst hBe
                  have hsub : IntKind.i64.wrap ((u.size : Int) - (y : Int)) = (u.size : Int) - (y : Int) := IntWalk.i64_in _ ⟨by omega, by omega⟩
                  have hT2 : X1 ++ (P2.take (q + 1)).map (acP u v i j) = X1 ++ (P2.take q).map (acP u v i j) ++ [(u ++ v.extract y v.size, (i : Int), 0, (j : Int), (u.size : Int) - (y : Int))] := by
                    rw [List.take_succ_eq_append_getElem hqP, List.map_append, ← hx, ← List.append_assoc]
                    rfl
                  have hws : w.heap.size + 1 ≤ wr.heap.size := hK.1.lt
                  have hsz : (v.extract y v.size).size = v.size - y := by rw [ByteArray.size_extract]; omega
                  have hyle : y ≤ v.size := by omega
                  have hcat : ¬ (9223372036854775807 < u.size + (v.size - y)) := by omega
                  have hcat2 : ¬ (9223372036854775807 < u.size + (v.extract y v.size).size) := by omega
                  obtain ⟨bs, hbs⟩ : ∃ b, b = wr.heap.size := ⟨_, rfl⟩
                  have hK1 : PrK w (wr.alloc (.cells #[.int .i64 (j : Int), .int .i64 ((u.size : Int) - (y : Int))] 56)) l (some ⟨b, o, none⟩) n c br u u1 bo v v1 (.slice B m d) := hK.below ((Below.refl _ _).alloc (Nat.le_refl _) _)
                  have hO1 := own_drew1 (hO.alloc (.cells #[.int .i64 (j : Int), .int .i64 ((u.size : Int) - (y : Int))] 56))
                  have hR1 : Rd (World.drew (wr.alloc (.cells #[.int .i64 (j : Int), .int .i64 ((u.size : Int) - (y : Int))] 56))) (some ⟨b9, o9, none⟩) (ints P2) := hR.keep ((Below.refl _ _).alloc (Nat.le_refl _) _).drew
                  have hA1 : Apt (.slice B m d) (some ⟨b9, o9, none⟩) (World.drew (wr.alloc (.cells #[.int .i64 (j : Int), .int .i64 ((u.size : Int) - (y : Int))] 56))) := hA.below ((Below.refl wr.heap.size wr).alloc (Nat.le_refl _) (.cells #[.int .i64 (j : Int), .int .i64 ((u.size : Int) - (y : Int))] 56)).drew
                  have hB1 : Bk (World.drew (wr.alloc (.cells #[.int .i64 (j : Int), .int .i64 ((u.size : Int) - (y : Int))] 56))) bs 56 #[.int .i64 (j : Int), .int .i64 ((u.size : Int) - (y : Int))] := ((Bk.new wr 56 #[.int .i64 (j : Int), .int .i64 ((u.size : Int) - (y : Int))]).cast hbs.symm)
                  have hAs : Apt (.slice B m d) (some ⟨bs, 0, none⟩) (World.drew (wr.alloc (.cells #[.int .i64 (j : Int), .int .i64 ((u.size : Int) - (y : Int))] 56))) := by have h := Apt.new hO (.cells #[.int .i64 (j : Int), .int .i64 ((u.size : Int) - (y : Int))] 56); rw [← hbs] at h; exact h
                  have hK1d : PrK w (World.drew (wr.alloc (.cells #[.int .i64 (j : Int), .int .i64 ((u.size : Int) - (y : Int))] 56))) l (some ⟨b, o, none⟩) n c br u u1 bo v v1 (.slice B m d) := hK1.below (Below.refl _ _).drew
                  have eS : ∀ W, PrK w W l (some ⟨b, o, none⟩) n c br u u1 bo v v1 (.slice B m d) → Bk W bs 56 #[.int .i64 (j : Int), .int .i64 ((u.size : Int) - (y : Int))] → W.cell? ⟨br, 0, none⟩ = some (.string u) ∧ W.cell? ⟨bo, 0, none⟩ = some (.string v) ∧ W.cell? ⟨bs, 0, none⟩ = some (.int .i64 (j : Int)) ∧ W.cell? ⟨bs, 1, none⟩ = some (.int .i64 ((u.size : Int) - (y : Int))) := fun W h1 h2 => ⟨by rw [h1.2.1.cell]; rfl, by rw [h1.2.2.1.cell]; rfl, by rw [h2.cell]; rfl, by rw [h2.cell]; rfl⟩
                  have eT : ∀ W V, PrK w W l (some ⟨b, o, none⟩) n c br u u1 bo v v1 V → Bk W bs 56 #[.int .i64 (j : Int), .int .i64 ((u.size : Int) - (y : Int))] → W.cell? ⟨br, 0, none⟩ = some (.string u) ∧ W.cell? ⟨bo, 0, none⟩ = some (.string v) ∧ W.cell? ⟨bs, 0, none⟩ = some (.int .i64 (j : Int)) ∧ W.cell? ⟨bs, 1, none⟩ = some (.int .i64 ((u.size : Int) - (y : Int))) := fun W V h1 h2 => ⟨by rw [h1.2.1.cell]; rfl, by rw [h1.2.2.1.cell]; rfl, by rw [h2.cell]; rfl, by rw [h2.cell]; rfl⟩
                  have k0 : wr.cell? ⟨br, 0, none⟩ = some (.string u) := by rw [hK.2.1.cell]; rfl
                  have k2 := hK.2.1.lt
                  have hwd : w.heap.size + 1 ≤ (World.drew (wr.alloc (.cells #[.int .i64 (j : Int), .int .i64 ((u.size : Int) - (y : Int))] 56))).heap.size := hK1d.1.lt
                  clear hK hO hR hA hK1
                  have Hx := Lib.hid hx
                  clear hx
                  have HT2 := Lib.hid hT2
                  clear hT2
                  have Hbl9 := Lib.hid hbl9
                  clear hbl9
                  have HO1 := Lib.hid hO1
                  clear hO1
                  have HR1 := Lib.hid hR1
                  clear hR1
                  have HA1 := Lib.hid hA1
                  clear hA1
                  have HB1 := Lib.hid hB1
                  clear hB1
                  have HAs := Lib.hid hAs
                  clear hAs
                  have HK1d := Lib.hid hK1d
                  clear hK1d
                  have ES := Lib.hid eS
                  clear eS
                  have ET := Lib.hid eT
                  clear eT
                  have Hbs := Lib.hid hbs
                  clear hbs
                  go_wp2_with fail
                  try rw [← Hbs.out]
                  refine wp_region_held_drew (S := (fun W => W.cell? ⟨br, 0, none⟩ = some (.string u) ∧ W.cell? ⟨bo, 0, none⟩ = some (.string v) ∧ W.cell? ⟨bs, 0, none⟩ = some (.int .i64 (j : Int)) ∧ W.cell? ⟨bs, 1, none⟩ = some (.int .i64 ((u.size : Int) - (y : Int))))) (by kernel_rfl) (ES.out _ HK1d.out HB1.out) (fun hHeld => ?_)
                  refine wpAnyH_take (i := 0) (oi := ?oi371) (v := ?val371) ?hi371 ?hs371 ?hf371 ?hr371 ?hQ371 ?hy371 ?hS371 ?hrest371
                  case hi371 => (simp only [List.getElem?_toArray, List.getElem?_cons_succ, List.getElem?_cons_zero] <;> exact rfl)
                  case hs371 => kernel_rfl
                  case hf371 => kernel_rfl
                  case hr371 => kernel_rfl
                  case hQ371 => exact fun _ _ _ h => h
                  case hS371 => assumption
                  case hy371 => (refine Or.inl ⟨by rfl, ?_⟩; intro w hSw; (try dsimp only at hSw); obtain ⟨z0, z1, z2, z3⟩ := hSw; go_simp; try with_reducible rfl)
                  simp only [Act.put, List.setIfInBounds_toArray, List.set_cons_zero, List.set_cons_succ]
                  refine wpAnyH_take (i := 1) (oi := ?oi380) (v := ?val380) ?hi380 ?hs380 ?hf380 ?hr380 ?hQ380 ?hy380 ?hS380 ?hrest380
                  case hi380 => (simp only [List.getElem?_toArray, List.getElem?_cons_succ, List.getElem?_cons_zero] <;> exact rfl)
                  case hs380 => kernel_rfl
                  case hf380 => kernel_rfl
                  case hr380 => kernel_rfl
                  case hQ380 => exact fun _ _ _ h => h
                  case hS380 => assumption
                  case hy380 => (refine Or.inl ⟨by rfl, ?_⟩; intro w hSw; (try dsimp only at hSw); obtain ⟨z0, z1, z2, z3⟩ := hSw; go_simp; try with_reducible rfl)
                  simp only [Act.put, List.setIfInBounds_toArray, List.set_cons_zero, List.set_cons_succ]
                  refine wpAnyH_take (i := 2) (oi := ?oi389) (v := ?val389) ?hi389 ?hs389 ?hf389 ?hr389 ?hQ389 ?hy389 ?hS389 ?hrest389
                  case hi389 => (simp only [List.getElem?_toArray, List.getElem?_cons_succ, List.getElem?_cons_zero] <;> exact rfl)
                  case hs389 => kernel_rfl
                  case hf389 => kernel_rfl
                  case hr389 => kernel_rfl
                  case hQ389 => exact fun _ _ _ h => h
                  case hS389 => assumption
                  case hy389 => (refine Or.inl ⟨by rfl, ?_⟩; intro w hSw; (try dsimp only at hSw); obtain ⟨z0, z1, z2, z3⟩ := hSw; go_simp; try with_reducible rfl)
                  simp only [Act.put, List.setIfInBounds_toArray, List.set_cons_zero, List.set_cons_succ]
                  refine wpAnyH_take (i := 3) (oi := ?oi398) (v := ?val398) ?hi398 ?hs398 ?hf398 ?hr398 ?hQ398 ?hy398 ?hS398 ?hrest398
                  case hi398 => (simp only [List.getElem?_toArray, List.getElem?_cons_succ, List.getElem?_cons_zero] <;> exact rfl)
                  case hs398 => kernel_rfl
                  case hf398 => kernel_rfl
                  case hr398 => kernel_rfl
                  case hQ398 => exact fun _ _ _ h => h
                  case hS398 => assumption
                  case hy398 => (refine Or.inl ⟨by rfl, ?_⟩; intro w hSw; (try dsimp only at hSw); obtain ⟨z0, z1, z2, z3⟩ := hSw; go_simp; try with_reducible rfl)
                  simp only [Act.put, List.setIfInBounds_toArray, List.set_cons_zero, List.set_cons_succ]
                  refine wpAnyH_take (i := 4) (oi := ?oi407) (v := ?val407) ?hi407 ?hs407 ?hf407 ?hr407 ?hQ407 ?hy407 ?hS407 ?hrest407
                  case hi407 => (simp only [List.getElem?_toArray, List.getElem?_cons_succ, List.getElem?_cons_zero] <;> exact rfl)
                  case hs407 => kernel_rfl
                  case hf407 => kernel_rfl
                  case hr407 => kernel_rfl
                  case hQ407 => exact fun _ _ _ h => h
                  case hS407 => assumption
                  case hy407 => (refine Or.inl ⟨by rfl, ?_⟩; intro w hSw; (try dsimp only at hSw); obtain ⟨z0, z1, z2, z3⟩ := hSw; go_simp; try with_reducible rfl)
                  simp only [Act.put, List.setIfInBounds_toArray, List.set_cons_zero, List.set_cons_succ]
                  refine wpAnyH_take (i := 5) (oi := ?oi416) (v := ?val416) ?hi416 ?hs416 ?hf416 ?hr416 ?hQ416 ?hy416 ?hS416 ?hrest416
                  case hi416 => (simp only [List.getElem?_toArray, List.getElem?_cons_succ, List.getElem?_cons_zero] <;> exact rfl)
                  case hs416 => kernel_rfl
                  case hf416 => kernel_rfl
                  case hr416 => kernel_rfl
                  case hQ416 => exact fun _ _ _ h => h
                  case hS416 => assumption
                  case hy416 => (refine Or.inl ⟨by rfl, ?_⟩; intro w hSw; (try dsimp only at hSw); obtain ⟨z0, z1, z2, z3⟩ := hSw; go_simp; try with_reducible rfl)
                  simp only [Act.put, List.setIfInBounds_toArray, List.set_cons_zero, List.set_cons_succ]
                  refine wpAnyH_take (i := 6) (oi := ?oi425) (v := ?val425) ?hi425 ?hs425 ?hf425 ?hr425 ?hQ425 ?hy425 ?hS425 ?hrest425
                  case hi425 => (simp only [List.getElem?_toArray, List.getElem?_cons_succ, List.getElem?_cons_zero] <;> exact rfl)
                  case hs425 => kernel_rfl
                  case hf425 => kernel_rfl
                  case hr425 => kernel_rfl
                  case hQ425 => exact fun _ _ _ h => h
                  case hS425 => assumption
                  case hy425 => (refine Or.inl ⟨by rfl, ?_⟩; intro w hSw; (try dsimp only at hSw); obtain ⟨z0, z1, z2, z3⟩ := hSw; go_simp; try with_reducible rfl)
                  simp only [Act.put, List.setIfInBounds_toArray, List.set_cons_zero, List.set_cons_succ]
                  refine wpAnyH_take (i := 7) (oi := ?oi434) (v := ?val434) ?hi434 ?hs434 ?hf434 ?hr434 ?hQ434 ?hy434 ?hS434 ?hrest434
                  case hi434 => (simp only [List.getElem?_toArray, List.getElem?_cons_succ, List.getElem?_cons_zero] <;> exact rfl)
                  case hs434 => kernel_rfl
                  case hf434 => kernel_rfl
                  case hr434 => kernel_rfl
                  case hQ434 => exact fun _ _ _ h => h
                  case hS434 => assumption
                  case hy434 => (refine Or.inl ⟨by rfl, ?_⟩; intro w hSw; (try dsimp only at hSw); obtain ⟨z0, z1, z2, z3⟩ := hSw; go_simp; try with_reducible rfl)
                  simp only [Act.put, List.setIfInBounds_toArray, List.set_cons_zero, List.set_cons_succ]
                  refine wpAnyH_take (i := 8) (oi := ?oi443) (v := ?val443) ?hi443 ?hs443 ?hf443 ?hr443 ?hQ443 ?hy443 ?hS443 ?hrest443
                  case hi443 => (simp only [List.getElem?_toArray, List.getElem?_cons_succ, List.getElem?_cons_zero] <;> exact rfl)
                  case hs443 => kernel_rfl
                  case hf443 => kernel_rfl
                  case hr443 => kernel_rfl
                  case hQ443 => exact fun _ _ _ h => h
                  case hS443 => assumption
                  case hy443 => (refine Or.inl ⟨by rfl, ?_⟩; intro w hSw; (try dsimp only at hSw); obtain ⟨z0, z1, z2, z3⟩ := hSw; go_simp; try with_reducible rfl)
                  simp only [Act.put, List.setIfInBounds_toArray, List.set_cons_zero, List.set_cons_succ]
                  refine wpAnyH_take (i := 9) (oi := ?oi452) (v := ?val452) ?hi452 ?hs452 ?hf452 ?hr452 ?hQ452 ?hy452 ?hS452 ?hrest452
                  case hi452 => (simp only [List.getElem?_toArray, List.getElem?_cons_succ, List.getElem?_cons_zero] <;> exact rfl)
                  case hs452 => kernel_rfl
                  case hf452 => kernel_rfl
                  case hr452 => kernel_rfl
                  case hQ452 => exact fun _ _ _ h => h
                  case hS452 => assumption
                  case hy452 => (refine Or.inl ⟨by rfl, ?_⟩; intro w hSw; (try dsimp only at hSw); obtain ⟨z0, z1, z2, z3⟩ := hSw; go_simp; try with_reducible rfl)
                  simp only [Act.put, List.setIfInBounds_toArray, List.set_cons_zero, List.set_cons_succ]
                  refine wpAnyH_take (i := 10) (oi := ?oi461) (v := ?val461) ?hi461 ?hs461 ?hf461 ?hr461 ?hQ461 ?hy461 ?hS461 ?hrest461
                  case hi461 => (simp only [List.getElem?_toArray, List.getElem?_cons_succ, List.getElem?_cons_zero] <;> exact rfl)
                  case hs461 => kernel_rfl
                  case hf461 => kernel_rfl
                  case hr461 => kernel_rfl
                  case hQ461 => exact fun _ _ _ h => h
                  case hS461 => assumption
                  case hy461 => (refine Or.inl ⟨by rfl, ?_⟩; intro w hSw; (try dsimp only at hSw); obtain ⟨z0, z1, z2, z3⟩ := hSw; go_simp; try with_reducible rfl)
                  simp only [Act.put, List.setIfInBounds_toArray, List.set_cons_zero, List.set_cons_succ]
                  refine wpAnyH_take (i := 11) (oi := ?oi470) (v := ?val470) ?hi470 ?hs470 ?hf470 ?hr470 ?hQ470 ?hy470 ?hS470 ?hrest470
                  case hi470 => (simp only [List.getElem?_toArray, List.getElem?_cons_succ, List.getElem?_cons_zero] <;> exact rfl)
                  case hs470 => kernel_rfl
                  case hf470 => kernel_rfl
                  case hr470 => kernel_rfl
                  case hQ470 => exact fun _ _ _ h => h
                  case hS470 => assumption
                  case hy470 => (refine Or.inl ⟨by rfl, ?_⟩; intro w hSw; (try dsimp only at hSw); obtain ⟨z0, z1, z2, z3⟩ := hSw; go_simp; try with_reducible rfl)
                  simp only [Act.put, List.setIfInBounds_toArray, List.set_cons_zero, List.set_cons_succ]
                  refine wpAnyH_ready (rs := [12]) (by kernel_rfl) (by simp) ?_
                  refine AllReadyH.cons rfl (fun K hK => ?_) AllReadyH.nil
                  (go_simp)
                  refine hK.out _ _ (ES.out _ (HK1d.out.below ((Below.refl _ _).alloc (Nat.le_refl _) _)) (HB1.out.alloc _)) (fun hHeld2 => ?_)
                  clear hK K hHeld
                  have hHeld := hHeld2
                  clear hHeld2
                  first | simp only [Act.put, List.setIfInBounds_toArray, List.set_cons_zero, List.set_cons_succ] | skip
                  refine wpAnyH_ready (rs := [13]) (by kernel_rfl) (by simp) ?_
                  refine AllReadyH.cons rfl (fun K hK => ?_) AllReadyH.nil
                  (refine step_app5 _ (World.drew (wr.alloc (.cells #[.int .i64 (j : Int), .int .i64 ((u.size : Int) - (y : Int))] 56))) _ ?e0 rfl _ _ 47 rfl (w.heap.size + 1) 77 5 48 _ Tryz.underlying47 info_Pair rfl (by omega) (.slice B m d) m _ _ rfl rfl rfl HO1.out rfl (one_cell_pair1 _ _ _ _ _) (by omega) (by unfold maxLen; omega) (by first | exact hwd | (have hwd2 := hwd; simp at hwd2 ⊢; omega)) ?_; (first | rfl | simp); intro g5 c5 w5 hO5 hW5 hG5 hat5; (have hsz9 : (World.drew (wr.alloc (.cells #[.int .i64 (j : Int), .int .i64 ((u.size : Int) - (y : Int))] 56))).heap.size = wr.heap.size + 1 := by show (wr.alloc _).heap.size = _; simp); (have hat5 : (Value.slice B m d).ownBlock = some g5 ∨ (World.drew (wr.alloc (.cells #[.int .i64 (j : Int), .int .i64 ((u.size : Int) - (y : Int))] 56))).heap.size ≤ g5 := by rw [hsz9]; first | exact hat5 | (rw [hsz9] at hat5; exact hat5)))
                  refine hK.out _ _ (ET.out _ _ (HK1d.out.next (m := m + 1) (d := c5) hW5 hG5 hat5) (HAs.out.bk HB1.out hG5)) (fun hHeld2 => ?_)
                  clear hK K hHeld
                  have hHeld := hHeld2
                  clear hHeld2
                  first | simp only [Act.put, List.setIfInBounds_toArray, List.set_cons_zero, List.set_cons_succ] | skip
                  refine wpAnyH_take (i := 14) (oi := ?oi495) (v := ?val495) ?hi495 ?hs495 ?hf495 ?hr495 ?hQ495 ?hy495 ?hS495 ?hrest495
                  case hi495 => (simp only [List.getElem?_toArray, List.getElem?_cons_succ, List.getElem?_cons_zero] <;> exact rfl)
                  case hs495 => kernel_rfl
                  case hf495 => kernel_rfl
                  case hr495 => kernel_rfl
                  case hQ495 => exact fun _ _ _ h => h
                  case hS495 => assumption
                  case hy495 => (refine Or.inl ⟨by rfl, ?_⟩; intro w hSw; (try dsimp only at hSw); obtain ⟨z0, z1, z2, z3⟩ := hSw; go_simp; try with_reducible rfl)
                  simp only [Act.put, List.setIfInBounds_toArray, List.set_cons_zero, List.set_cons_succ]
                  refine wpAnyH_done (by kernel_rfl) ?_ _
                  have hK6 := HK1d.out.next (m := m + 1) (d := c5) hW5 hG5 hat5
                  have hO6 : w5.ownsRow (w.heap.size + 1) 77 5 (.slice (some ⟨g5, 0, none⟩) (m + 1) c5) (m + 1) (cellsPair (X1 ++ (P2.take (q + 1)).map (acP u v i j))) := by rw [HT2.out, cellsPair_snoc1]; exact hO5
                  have hR6 := HA1.out.rd HR1.out hG5
                  have hA6 := HA1.out.next (n := m + 1) (c := c5) hG5 hat5
                  have hM6 : m + 1 = (X1 ++ (P2.take (q + 1)).map (acP u v i j)).length := by rw [HT2.out, List.length_append, ← HM.out]; rfl
                  clear hHeld hO5 hW5 hG5 hat5 HK1d HR1 HA1 HO1 HB1 HAs ES ET
                  have HR6 := Lib.hid hR6
                  clear hR6
                  have HA6 := Lib.hid hA6
                  clear hA6
                  have HK6 := Lib.hid hK6
                  clear hK6
                  have HO6 := Lib.hid hO6
                  clear hO6
                  have HM6 := Lib.hid hM6
                  clear hM6
                  go_wp2_with fail
                  go_roundw
                  case rel => exact ⟨q + 1, some ⟨g5, 0, none⟩, c5, m + 1, by omega, by go_num, rfl, by omega, HM6, HK6.out, HR6.out, HA6.out, HO6.out⟩
                  case measure => simp [intOf] <;> omega
                · have : q = z2 := by omega
                  subst this
                  have hO9 : wr.ownsRow (w.heap.size + 1) 77 5 (.slice B m d) m (cellsPair (prTo rs i (j + 1))) := by rw [HT9.out, ← List.take_of_length_le (l := P2) (by rw [← Hz2.out]; exact Nat.le_refl _)]; exact hO
                  have hM9 : m = (prTo rs i (j + 1)).length := by rw [HT9.out, ← List.take_of_length_le (l := P2) (by rw [← Hz2.out]; exact Nat.le_refl _)]; exact HM.out
                  clear hR hA hO HM
                  have HO9 := Lib.hid hO9
                  clear hO9
                  have HM9 := Lib.hid hM9
                  clear hM9
                  have HK := Lib.hid hK
                  clear hK
                  go_wp2_with fail
                  go_roundw
                  case rel => exact ⟨j + 1, B, d, m, by omega, by go_num, rfl, HM9, HK.out.1, HK.out.2.1, HK.out.2.2.2.1, HO9.out, HK.out.2.2.2.2.2⟩
                  case measure => simp [intOf] <;> omega
        · have : j = n := by omega
          subst this
          have hO9 : wr.ownsRow (w.heap.size + 1) 77 5 (.slice B m d) m (cellsPair (prAcc rs (i + 1))) := by rw [prAcc_succ, ← Hn.out]; exact hO
          have hM9 : m = (prAcc rs (i + 1)).length := by rw [prAcc_succ, ← Hn.out]; exact HM.out
          clear hO HM hA hB
          have HO9 := Lib.hid hO9
          clear hO9
          have HM9 := Lib.hid hM9
          clear hM9
          have HS := Lib.hid hS
          clear hS
          have HW := Lib.hid hW
          clear hW
          go_wp2_with fail
          go_roundw
          case rel => exact ⟨i + 1, B, d, m, by omega, by go_num, rfl, HM9, HS.out, HO9.out, HW.out⟩
          case measure => simp [intOf] <;> omega
    · have : i = n := by omega
      subst this
      have HO := Lib.hid hO
      clear hO
      have HS := Lib.hid hS
      clear hS
      have HW := Lib.hid hW
      clear hW
      go_wp2_with fail
      go_ret
      rw [← HM.out]
      exact ⟨B, d, rfl, own_mono HO.out (by omega), HW.out⟩

set_option maxRecDepth 100000 in
set_option maxHeartbeats 1000000 in
theorem implPairsOf_any (l : Int) (A : Option Addr) (n c : Nat) (rs : List RuleT) (w : World) (hr : Rd w A (cellsRule rs)) (hn : n = rs.length) (hb : n ≤ 1048576) (hz : ∀ x ∈ rs, x.1.size ≤ 1048576 ∧ x.2.size ≤ 1048576) :
    Calls Tryz.prog 46 #[.agg #[.int .i64 l, .slice A n c]] w (MadeSl w 77 5 (prAll l rs).length (cellsPair (prAll l rs))) := by
  have hW0 : Below w.heap.size w (w.alloc (.cells #[.int .i64 l, .slice A n c] 25)) := (Below.refl _ _).alloc (Nat.le_refl _) _
  have hS0 := Bk.new w 25 #[.int .i64 l, .slice A n c]
  have Hr := Lib.hid hr
  clear hr
  have Hn := Lib.hid hn
  clear hn
  have Hz := Lib.hid hz
  clear hz
  go_enter Tryz.func46, Tryz.ntmps46
  go_wp2_with fail
  with_reducible refine (implSystemOk_any l A n c rs _ (Hr.out.keep hW0) Hn.out hb Hz.out).mono ?_
  rintro e w1 ⟨rfl, b1⟩
  have hW1 := hW0.trans (b1.mono hW0.size)
  have hS1 := hS0.below b1 hS0.lt
  have s0_1 : w1.cell? ⟨w.heap.size, 0, none⟩ = some (.int .i64 l) := by rw [hS1.cell]; rfl
  have s1_1 : w1.cell? ⟨w.heap.size, 1, none⟩ = some (.slice A n c) := by rw [hS1.cell]; rfl
  have sl_1 := hS1.lt
  clear b1
  obtain ⟨r1, hrr⟩ : ∃ r', r' = (systemOk l rs) := ⟨_, rfl⟩
  rw [← hrr]
  have H1 := Lib.hid hrr
  clear hrr
  cases r1
  · have e1 : prAll l rs = [] := by rw [prAll, ← H1.out]; rfl
    have E1 := Lib.hid e1
    clear e1
    go_wp2_with fail
    go_ret
    rw [E1.out]
    exact ⟨none, 0, rfl, World.ownsRow_nil _ _ _ _, hW1⟩
  have hro : rulesOk l rs = true := by have h := H1.out.symm; unfold systemOk at h; rw [Bool.and_eq_true] at h; exact h.1
  have h8 := rules_16 hro
  have h12 := rulesOk_12 hro
  have hne : ∀ k, k < rs.length → (ruleAt rs k).1 ≠ ⟨#[]⟩ := fun k hk => rules_ne hro hk
  have hn12 : n ≤ 12 := by rw [Hn.out]; exact h12
  have e1 : prAll l rs = prAcc rs n := by rw [prAll, ← H1.out, Hn.out]; rfl
  have hP := implPairs_any l A n c rs w1 (Hr.out.keep hW1) Hn.out hn12 h8 hne
  clear h8 hne
  have Hro := Lib.hid hro
  clear hro
  have E1 := Lib.hid e1
  clear e1
  have H12 := Lib.hid h12
  clear h12
  have HP := Lib.hid hP
  clear hP
  go_wp2_with fail
  refine HP.out.mono ?_
  rintro e w2 ⟨B, d, rfl, hO, b2⟩
  have hW2 := hW1.trans (b2.mono hW1.size)
  have hO2 := own_mono hO hW1.size
  clear hO
  have HO2 := Lib.hid hO2
  clear hO2
  have HW2 := Lib.hid hW2
  clear hW2
  go_wp2_with fail
  go_ret
  rw [E1.out]
  exact ⟨B, d, rfl, HO2.out, HW2.out⟩

end Go.Proofs.YteafeecndghapaaGreat
