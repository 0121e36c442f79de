/- Walk over l06Pairs of the reference. -/
import Derived.Test.YteafeecndghapaaGreatIns
import Derived.Test.YteafeecndghapaaGreatOpnS
import Derived.Test.YteafeecndghapaaGreatMg1
namespace Go.Proofs.YteafeecndghapaaGreat
open Go.RowKit Go.Shelf

theorem pq_yes {l : Int} {rs : List RuleT} {X : List PairT} {q : Nat} (hq : q < X.length) {v : PairT} (hv : v = X[q]) (h : lastP rs v = true) : (((X.take (q + 1)).filter (lastP rs)).map (pairR l rs)) = (((X.take q).filter (lastP rs)).map (pairR l rs)) ++ [pairR l rs v] := by
  rw [List.take_succ_eq_append_getElem hq, List.filter_append, List.map_append, ← hv]
  simp [h]
theorem pq_no {l : Int} {rs : List RuleT} {X : List PairT} {q : Nat} (hq : q < X.length) {v : PairT} (hv : v = X[q]) (h : lastP rs v = false) : (((X.take (q + 1)).filter (lastP rs)).map (pairR l rs)) = (((X.take q).filter (lastP rs)).map (pairR l rs)) := by
  rw [List.take_succ_eq_append_getElem hq, List.filter_append, List.map_append, ← hv]
  simp [h]
set_option maxRecDepth 100000 in
set_option maxHeartbeats 8000000 in
theorem specPairsQ_any (l : Int) (A : Option Addr) (n c : Nat) (rs : List RuleT) (w : World) (hr : Rd w A (cellsRule rs)) (hn : n = rs.length) (hb : n ≤ 100) (hz : ∀ x ∈ rs, x.1.size ≤ 1048576 ∧ x.2.size ≤ 1048576) :
    Calls Tryz.prog 99 #[.agg #[.int .i64 l, .slice A n c]] w (MadeSl w 68 2 (pairsQ l rs).length (cellsRule (pairsQ l rs))) := by
  have hO0 := own_of_bk (base := w.heap.size + 1) (m := 2) (n := 0) ((Bk.new (w.alloc (.cells #[.int .i64 l, .slice A n c] 25)) 68 #[]).cast (g' := w.heap.size + 1) (by simp)) (Nat.le_refl _) rfl (by unfold maxLen; omega)
  have hW0 : Below w.heap.size w ((w.alloc (.cells #[.int .i64 l, .slice A n c] 25)).alloc (.cells #[] 68)) := ((Below.refl _ _).alloc (Nat.le_refl _) _).alloc (by simp) _
  have hS0 := (Bk.new w 25 #[.int .i64 l, .slice A n c]).alloc (.cells #[] 68)
  have s0_0 : ((w.alloc (.cells #[.int .i64 l, .slice A n c] 25)).alloc (.cells #[] 68)).cell? ⟨w.heap.size, 0, none⟩ = some (.int .i64 l) := by rw [hS0.cell]; rfl
  have s1_0 : ((w.alloc (.cells #[.int .i64 l, .slice A n c] 25)).alloc (.cells #[] 68)).cell? ⟨w.heap.size, 1, none⟩ = some (.slice A n c) := by rw [hS0.cell]; rfl
  have sl_0 := hS0.lt
  have hpl := prAll_len l rs
  have hXs := prAll_sz l rs
  have hP := fun (W : World) (hw : Rd W A (cellsRule rs)) => specPairsOf_any l A n c rs W hw hn (by omega) hz
  obtain ⟨X, hX⟩ : ∃ X, X = prAll l rs := ⟨_, rfl⟩
  have hF : pairsQ l rs = (X.filter (lastP rs)).map (pairR l rs) := by rw [pairsQ, hX]
  obtain ⟨F, hF2⟩ : ∃ F, F = pairsQ l rs := ⟨_, rfl⟩
  rw [← hF2] at hF ⊢
  rw [← hX] at hpl hXs hP
  obtain ⟨z, hzz⟩ : ∃ m, m = X.length := ⟨_, rfl⟩
  rw [← hzz] at hpl hP
  have h00 : cellsRule (((X.take 0).filter (lastP rs)).map (pairR l rs)) = (#[] : Array Value).toList := by simp [cellsRule]
  have hr0 := hr.keep hW0
  obtain ⟨la, hla⟩ : ∃ z : Int, z = (rs.length : Int) - 1 := ⟨_, rfl⟩
  have Hr := Lib.hid hr
  clear hr
  have Hn := Lib.hid hn
  clear hn
  have Hz := Lib.hid hz
  clear hz
  have HXs := Lib.hid hXs
  clear hXs
  have HP := Lib.hid hP
  clear hP
  have HX := Lib.hid hX
  clear hX
  have HF := Lib.hid hF
  clear hF
  have HF2 := Lib.hid hF2
  clear hF2
  have Hzz := Lib.hid hzz
  clear hzz
  have HO0 := Lib.hid hO0
  clear hO0
  have HW0 := Lib.hid hW0
  clear hW0
  have HS0 := Lib.hid hS0
  clear hS0
  have H00 := Lib.hid h00
  clear h00
  have Hla := Lib.hid hla
  clear hla
  go_enter Tryz.func99, Tryz.ntmps99
  go_wp2_with fail
  refine (HP.out _ hr0).mono ?_
  rintro e w2 ⟨BX, d, rfl, hOp, b2⟩
  have hW2 := HW0.out.trans (b2.mono HW0.out.size)
  have hS2 := HS0.out.below b2 HS0.out.lt
  have hO2 := own_keep HO0.out b2 (Nat.le_refl _)
  have hA2 : Apt (.slice (some ⟨w.heap.size + 1, 0, none⟩) 0 0) BX w2 := Apt.of_own hOp (fun k hk => by simp [Value.ownBlock] at hk; subst hk; simp)
  have hR2 := Rd.of_own hOp
  clear HW0 HS0 b2 hOp HO0 s0_0 s1_0 sl_0 hr0 HP
  have HW2 := Lib.hid hW2
  clear hW2
  have HS2 := Lib.hid hS2
  clear hS2
  have HO2 := Lib.hid hO2
  clear hO2
  have HA2 := Lib.hid hA2
  clear hA2
  have HR2 := Lib.hid hR2
  clear hR2
  go_wp2_with fail
  have eLa : ((n : Int) - 1) = la := by rw [Hla.out, Hn.out]
  try rw [eLa]
  go_loopw [3, 18] (fun v iv wr => ∃ (q : Nat) (B : Option Addr) (d m : Nat), q ≤ z ∧ iv = .int .i64 (q : Int) ∧ v = .slice B m d ∧ m ≤ q ∧ Hid (m = (((X.take q).filter (lastP rs)).map (pairR l rs)).length) ∧ Bk wr w.heap.size 25 #[.int .i64 l, .slice A n c] ∧ wr.ownsRow (w.heap.size + 1) 68 2 (.slice B m d) m (cellsRule (((X.take q).filter (lastP rs)).map (pairR l rs))) ∧ Rd wr BX (cellsPair X) ∧ Apt (.slice B m d) BX wr ∧ Below w.heap.size w wr) (fun _ iv _ => z - (intOf iv).toNat)
  case atStart => exact ⟨0, _, _, 0, Nat.zero_le _, rfl, rfl, Nat.le_refl _, Lib.hid rfl, HS2.out, by rw [H00.out]; exact HO2.out, HR2.out, HA2.out, HW2.out⟩
  case round =>
    clear HS2 HO2 HW2 HR2 HA2 H00 eLa
    obtain ⟨q, B, d', m, hq, rfl, rfl, hmq, HM, hS, hO, hR, hA, hW⟩ := hrel
    by_cases hlt : q < z
    · have hqX : q < X.length := by rw [← Hzz.out]; exact hlt
      obtain ⟨b9, o9, hBe, hbl9, p0, p1, p2, p3, p4⟩ := rd_Pair hR hqX
      have hxs := HXs.out X[q] (List.getElem_mem hqX)
      have hyes := fun (v : PairT) (hv : v = X[q]) => pq_yes (l := l) (rs := rs) hqX hv
      have hnno := fun (v : PairT) (hv : v = X[q]) => pq_no (l := l) (rs := rs) hqX hv
      obtain ⟨⟨v0, v1, v2, v3, v4⟩, hv⟩ : ∃ v, v = X[q] := ⟨_, rfl⟩
      rw [← hv] at p0 p1 p2 p3 p4 hxs
      dsimp only at p0 p1 p2 p3 p4 hxs
      have hyes := hyes _ hv
      have hnno := hnno _ hv
      subst hBe
      obtain ⟨bx, hbx⟩ : ∃ b, b = wr.heap.size := ⟨_, rfl⟩
      have hS1 := hS.alloc (.cells #[.string v0, .int .i64 v1, .int .i64 v2, .int .i64 v3, .int .i64 v4] 77)
      have hO1 := hO.alloc (.cells #[.string v0, .int .i64 v1, .int .i64 v2, .int .i64 v3, .int .i64 v4] 77)
      have hbel := (Below.refl wr.heap.size wr).alloc (Nat.le_refl _) (.cells #[.string v0, .int .i64 v1, .int .i64 v2, .int .i64 v3, .int .i64 v4] 77)
      have hR1 := hR.keep hbel
      have hA1 := hA.below hbel
      have hW1 := hW.alloc hW.size (.cells #[.string v0, .int .i64 v1, .int .i64 v2, .int .i64 v3, .int .i64 v4] 77)
      have hB1 := Bk.new wr 77 #[.string v0, .int .i64 v1, .int .i64 v2, .int .i64 v3, .int .i64 v4]
      have t0 : (wr.alloc (.cells #[.string v0, .int .i64 v1, .int .i64 v2, .int .i64 v3, .int .i64 v4] 77)).cell? ⟨w.heap.size, 0, none⟩ = some (.int .i64 l) := by rw [hS1.cell]; rfl
      have t1 : (wr.alloc (.cells #[.string v0, .int .i64 v1, .int .i64 v2, .int .i64 v3, .int .i64 v4] 77)).cell? ⟨w.heap.size, 1, none⟩ = some (.slice A n c) := by rw [hS1.cell]; rfl
      have tl := hS.lt
      have hJ := fun (W : World) (hw : Rd W A (cellsRule rs)) => specSidesOf_any l A n c rs v0 v1 v2 v3 v4 W hw Hn.out (by omega) Hz.out (by omega)
      have hr1 := Hr.out.keep hW1
      have hlast : lastP rs (v0, v1, v2, v3, v4) = (decide (v1 = la) || decide (v3 = la)) := by rw [lastP, Hla.out]
      clear hS hO hR hA hW hbel
      by_cases e1 : v1 = la
      · have hT3 := hyes (by rw [hlast]; simp [e1])
        subst e1
        have Hv := Lib.hid hv
        clear hv
        have Hbx := Lib.hid hbx
        clear hbx
        have HS1 := Lib.hid hS1
        clear hS1
        have HO1 := Lib.hid hO1
        clear hO1
        have HR1 := Lib.hid hR1
        clear hR1
        have HA1 := Lib.hid hA1
        clear hA1
        have HW1 := Lib.hid hW1
        clear hW1
        have HB1 := Lib.hid hB1
        clear hB1
        have HJ := Lib.hid hJ
        clear hJ
        have Hbl9 := Lib.hid hbl9
        clear hbl9
        have HT3 := Lib.hid hT3
        clear hT3
        have Hyes := Lib.hid hyes
        clear hyes
        have Hnno := Lib.hid hnno
        clear hnno
        have Hlast := Lib.hid hlast
        clear hlast
        go_wp2_with fail
        refine (HJ.out _ hr1).mono ?_
        rintro e w3 ⟨rfl, b3⟩
        have hS3 := HS1.out.below b3 HS1.out.lt
        have hO3 := own_keep HO1.out b3 (Nat.le_refl _)
        have hR3 := HR1.out.keep b3
        have hA3 := HA1.out.below b3
        have hW3 := HW1.out.trans (b3.mono HW1.out.size)
        clear b3 HS1 HO1 HR1 HA1 HW1 HB1 HJ hr1 t0 t1 tl p0 p1 p2 p3 p4
        have ep : pairR l rs (v0, v1, v2, v3, v4) = ((sideS l rs v0 (v1, v2) (v3, v4) (v1, v2)), (sideS l rs v0 (v1, v2) (v3, v4) (v3, v4))) := rfl
        obtain ⟨a, ha⟩ : ∃ z, z = (sideS l rs v0 (v1, v2) (v3, v4) (v1, v2)) := ⟨_, rfl⟩
        obtain ⟨b, hb9⟩ : ∃ z, z = (sideS l rs v0 (v1, v2) (v3, v4) (v3, v4)) := ⟨_, rfl⟩
        obtain ⟨ok, hok⟩ : ∃ z, z = pairOk l rs v0 (v1, v2) (v3, v4) := ⟨_, rfl⟩
        rw [← ha, ← hb9] at ep
        have hT3 := HT3.out
        clear HT3
        rw [ep] at hT3
        rw [← ha, ← hb9, ← hok]
        have hws : w.heap.size + 1 ≤ w3.heap.size := hS3.lt
        have HT3 := Lib.hid hT3
        clear hT3
        have HS3 := Lib.hid hS3
        clear hS3
        have HR3 := Lib.hid hR3
        clear hR3
        have HA3 := Lib.hid hA3
        clear hA3
        have HW3 := Lib.hid hW3
        clear hW3
        have Ep := Lib.hid ep
        clear ep
        have Ha := Lib.hid ha
        clear ha
        have Hb9 := Lib.hid hb9
        clear hb9
        have Hok := Lib.hid hok
        clear hok
        go_wp2_with (at_builtin; go_loud (refine wpList_app5 _ w3 _ rfl rfl _ _ 23 rfl (w.heap.size + 1) 68 2 32 _ Tryz.underlying23 info_Rule rfl (by omega) (.slice B m d') m _ #[.string a, .string b] rfl rfl rfl hO3 rfl (one_cell_ruleP _ _) (by omega) (by unfold maxLen; omega) (by omega) ?_; intro g5 c5 w5 hO5 hW5 hG5 hat5))
        have hS6 := HS3.out.below hW5 (by omega)
        have hO6 : w5.ownsRow (w.heap.size + 1) 68 2 (.slice (some ⟨g5, 0, none⟩) (m + 1) c5) (m + 1) (cellsRule (((X.take (q + 1)).filter (lastP rs)).map (pairR l rs))) := by rw [HT3.out, cellsRule_end]; exact hO5
        have hR6 := HA3.out.rd HR3.out hG5
        have hA6 := HA3.out.next (n := m + 1) (c := c5) hG5 hat5
        have hW6 := HW3.out.trans (hW5.mono (by omega))
        have hM6 : m + 1 = (((X.take (q + 1)).filter (lastP rs)).map (pairR l rs)).length := by rw [HT3.out, List.length_append, ← HM.out]; rfl
        clear hO5 hW5 hG5 hat5 HS3 HR3 HA3 HW3 hO3
        have HR6 := Lib.hid hR6
        clear hR6
        have HA6 := Lib.hid hA6
        clear hA6
        have HS6 := Lib.hid hS6
        clear hS6
        have HW6 := Lib.hid hW6
        clear hW6
        have HO6 := Lib.hid hO6
        clear hO6
        have HM6 := Lib.hid hM6
        clear hM6
        try go_wp2_with fail
        go_roundw
        case rel => exact ⟨q + 1, some ⟨g5, 0, none⟩, c5, m + 1, by omega, by go_num, rfl, by omega, HM6, HS6.out, HO6.out, HR6.out, HA6.out, HW6.out⟩
        case measure => simp [intOf] <;> omega
      by_cases e3 : v3 = la
      · have hT3 := hyes (by rw [hlast]; simp [e3])
        subst e3
        have c1 : ((v1 : Int) == v3) = false := by simpa using e1
        have Hv := Lib.hid hv
        clear hv
        have Hbx := Lib.hid hbx
        clear hbx
        have HS1 := Lib.hid hS1
        clear hS1
        have HO1 := Lib.hid hO1
        clear hO1
        have HR1 := Lib.hid hR1
        clear hR1
        have HA1 := Lib.hid hA1
        clear hA1
        have HW1 := Lib.hid hW1
        clear hW1
        have HB1 := Lib.hid hB1
        clear hB1
        have HJ := Lib.hid hJ
        clear hJ
        have Hbl9 := Lib.hid hbl9
        clear hbl9
        have HT3 := Lib.hid hT3
        clear hT3
        have Hyes := Lib.hid hyes
        clear hyes
        have Hnno := Lib.hid hnno
        clear hnno
        have Hlast := Lib.hid hlast
        clear hlast
        go_wp2_with fail
        refine (HJ.out _ hr1).mono ?_
        rintro e w3 ⟨rfl, b3⟩
        have hS3 := HS1.out.below b3 HS1.out.lt
        have hO3 := own_keep HO1.out b3 (Nat.le_refl _)
        have hR3 := HR1.out.keep b3
        have hA3 := HA1.out.below b3
        have hW3 := HW1.out.trans (b3.mono HW1.out.size)
        clear b3 HS1 HO1 HR1 HA1 HW1 HB1 HJ hr1 t0 t1 tl p0 p1 p2 p3 p4
        have ep : pairR l rs (v0, v1, v2, v3, v4) = ((sideS l rs v0 (v1, v2) (v3, v4) (v1, v2)), (sideS l rs v0 (v1, v2) (v3, v4) (v3, v4))) := rfl
        obtain ⟨a, ha⟩ : ∃ z, z = (sideS l rs v0 (v1, v2) (v3, v4) (v1, v2)) := ⟨_, rfl⟩
        obtain ⟨b, hb9⟩ : ∃ z, z = (sideS l rs v0 (v1, v2) (v3, v4) (v3, v4)) := ⟨_, rfl⟩
        obtain ⟨ok, hok⟩ : ∃ z, z = pairOk l rs v0 (v1, v2) (v3, v4) := ⟨_, rfl⟩
        rw [← ha, ← hb9] at ep
        have hT3 := HT3.out
        clear HT3
        rw [ep] at hT3
        rw [← ha, ← hb9, ← hok]
        have hws : w.heap.size + 1 ≤ w3.heap.size := hS3.lt
        have HT3 := Lib.hid hT3
        clear hT3
        have HS3 := Lib.hid hS3
        clear hS3
        have HR3 := Lib.hid hR3
        clear hR3
        have HA3 := Lib.hid hA3
        clear hA3
        have HW3 := Lib.hid hW3
        clear hW3
        have Ep := Lib.hid ep
        clear ep
        have Ha := Lib.hid ha
        clear ha
        have Hb9 := Lib.hid hb9
        clear hb9
        have Hok := Lib.hid hok
        clear hok
        go_wp2_with (at_builtin; go_loud (refine wpList_app5 _ w3 _ rfl rfl _ _ 23 rfl (w.heap.size + 1) 68 2 32 _ Tryz.underlying23 info_Rule rfl (by omega) (.slice B m d') m _ #[.string a, .string b] rfl rfl rfl hO3 rfl (one_cell_ruleP _ _) (by omega) (by unfold maxLen; omega) (by omega) ?_; intro g5 c5 w5 hO5 hW5 hG5 hat5))
        have hS6 := HS3.out.below hW5 (by omega)
        have hO6 : w5.ownsRow (w.heap.size + 1) 68 2 (.slice (some ⟨g5, 0, none⟩) (m + 1) c5) (m + 1) (cellsRule (((X.take (q + 1)).filter (lastP rs)).map (pairR l rs))) := by rw [HT3.out, cellsRule_end]; exact hO5
        have hR6 := HA3.out.rd HR3.out hG5
        have hA6 := HA3.out.next (n := m + 1) (c := c5) hG5 hat5
        have hW6 := HW3.out.trans (hW5.mono (by omega))
        have hM6 : m + 1 = (((X.take (q + 1)).filter (lastP rs)).map (pairR l rs)).length := by rw [HT3.out, List.length_append, ← HM.out]; rfl
        clear hO5 hW5 hG5 hat5 HS3 HR3 HA3 HW3 hO3
        have HR6 := Lib.hid hR6
        clear hR6
        have HA6 := Lib.hid hA6
        clear hA6
        have HS6 := Lib.hid hS6
        clear hS6
        have HW6 := Lib.hid hW6
        clear hW6
        have HO6 := Lib.hid hO6
        clear hO6
        have HM6 := Lib.hid hM6
        clear hM6
        try go_wp2_with fail
        go_roundw
        case rel => exact ⟨q + 1, some ⟨g5, 0, none⟩, c5, m + 1, by omega, by go_num, rfl, by omega, HM6, HS6.out, HO6.out, HR6.out, HA6.out, HW6.out⟩
        case measure => simp [intOf] <;> omega
      have hT3 := hnno (by rw [hlast]; simp [e1, e3])
      have c1 : ((v1 : Int) == la) = false := by simpa using e1
      have c3 : ((v3 : Int) == la) = false := by simpa using e3
      have Hv := Lib.hid hv
      clear hv
      have Hbx := Lib.hid hbx
      clear hbx
      have HS1 := Lib.hid hS1
      clear hS1
      have HO1 := Lib.hid hO1
      clear hO1
      have HR1 := Lib.hid hR1
      clear hR1
      have HA1 := Lib.hid hA1
      clear hA1
      have HW1 := Lib.hid hW1
      clear hW1
      have HB1 := Lib.hid hB1
      clear hB1
      have HJ := Lib.hid hJ
      clear hJ
      have Hbl9 := Lib.hid hbl9
      clear hbl9
      have HT3 := Lib.hid hT3
      clear hT3
      have Hyes := Lib.hid hyes
      clear hyes
      have Hnno := Lib.hid hnno
      clear hnno
      have Hlast := Lib.hid hlast
      clear hlast
      go_wp2_with fail
      go_roundw
      case rel => exact ⟨q + 1, B, d', m, by omega, by go_num, rfl, by omega, by rw [HT3.out]; exact HM, HS1.out, by rw [HT3.out]; exact HO1.out, HR1.out, HA1.out, HW1.out⟩
      case measure => simp [intOf] <;> omega
    · have : q = z := by omega
      subst this
      have hT : (((X.take q).filter (lastP rs)).map (pairR l rs)) = F := by rw [HF.out, List.take_of_length_le (by rw [← Hzz.out]; exact Nat.le_refl _)]
      have hO9 := own_mono (b' := w.heap.size) hO (by omega)
      rw [hT] at hO9
      have hM9 := HM.out
      rw [hT] at hM9
      clear hO HM
      have HT := Lib.hid hT
      clear hT
      have HR := Lib.hid hR
      clear hR
      have HA := Lib.hid hA
      clear hA
      have HO9 := Lib.hid hO9
      clear hO9
      have HM9 := Lib.hid hM9
      clear hM9
      have HS := Lib.hid hS
      clear hS
      have HW := Lib.hid hW
      clear hW
      go_wp2_with fail
      go_ret
      rw [← HM9.out]
      exact ⟨B, d', rfl, HO9.out, HW.out⟩
end Go.Proofs.YteafeecndghapaaGreat
