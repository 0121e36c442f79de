/- Walks over OpenPairs of the reference, and IsComplete and CountPairs of both. -/
import Derived.Test.YteafeecndghapaaGreatOpn
namespace Go.Proofs.YteafeecndghapaaGreat
open Go.RowKit Go.Shelf

set_option maxRecDepth 100000 in
set_option maxHeartbeats 4000000 in
theorem specOpenPairs_any (l : Int) (A : Option Addr) (n c : Nat) (rs : List RuleT) (w : World) (hr : Rd w A (cellsRule rs)) (hn : n = rs.length) (hb : n ≤ 1048576) (hz : ∀ x ∈ rs, x.1.size ≤ 1048576 ∧ x.2.size ≤ 1048576) :
    Calls Tryz.prog 55 #[.agg #[.int .i64 l, .slice A n c]] w (MadeSl w 77 5 (opAll l rs).length (cellsPair (opAll l rs))) := by
  have hO0 := own_of_bk (base := w.heap.size + 1) (m := 5) (n := 0) ((Bk.new (w.alloc (.cells #[.int .i64 l, .slice A n c] 25)) 77 #[]).cast (g' := w.heap.size + 1) (by simp)) (Nat.le_refl _) rfl (by unfold maxLen; omega)
  have hW0 : Below w.heap.size w ((w.alloc (.cells #[.int .i64 l, .slice A n c] 25)).alloc (.cells #[] 77)) := ((Below.refl _ _).alloc (Nat.le_refl _) _).alloc (by simp) _
  have hS0 := (Bk.new w 25 #[.int .i64 l, .slice A n c]).alloc (.cells #[] 77)
  have s0_0 : ((w.alloc (.cells #[.int .i64 l, .slice A n c] 25)).alloc (.cells #[] 77)).cell? ⟨w.heap.size, 0, none⟩ = some (.int .i64 l) := by rw [hS0.cell]; rfl
  have s1_0 : ((w.alloc (.cells #[.int .i64 l, .slice A n c] 25)).alloc (.cells #[] 77)).cell? ⟨w.heap.size, 1, none⟩ = some (.slice A n c) := by rw [hS0.cell]; rfl
  have sl_0 := hS0.lt
  have hpl := prAll_len l rs
  have hXs := prAll_sz l rs
  have hP := fun (W : World) (hw : Rd W A (cellsRule rs)) => specPairsOf_any l A n c rs W hw hn hb hz
  obtain ⟨X, hX⟩ : ∃ X, X = prAll l rs := ⟨_, rfl⟩
  have hF : opAll l rs = X.filter (fun p => !joinedP l rs p) := by rw [opAll, hX]
  obtain ⟨F, hF2⟩ : ∃ F, F = opAll l rs := ⟨_, rfl⟩
  rw [← hF2] at hF ⊢
  rw [← hX] at hpl hXs hP
  obtain ⟨z, hzz⟩ : ∃ m, m = X.length := ⟨_, rfl⟩
  rw [← hzz] at hpl hP
  have h00 : cellsPair ((X.take 0).filter (fun p => !joinedP l rs p)) = (#[] : Array Value).toList := by simp [cellsPair]
  have hr0 := hr.keep hW0
  have Hr := Lib.hid hr
  clear hr
  have Hn := Lib.hid hn
  clear hn
  have Hz := Lib.hid hz
  clear hz
  have HXs := Lib.hid hXs
  clear hXs
  have HP := Lib.hid hP
  clear hP
  have HX := Lib.hid hX
  clear hX
  have HF := Lib.hid hF
  clear hF
  have HF2 := Lib.hid hF2
  clear hF2
  have Hzz := Lib.hid hzz
  clear hzz
  have HO0 := Lib.hid hO0
  clear hO0
  have HW0 := Lib.hid hW0
  clear hW0
  have HS0 := Lib.hid hS0
  clear hS0
  have H00 := Lib.hid h00
  clear h00
  go_enter Tryz.func55, Tryz.ntmps55
  go_wp2_with fail
  refine (HP.out _ hr0).mono ?_
  rintro e w2 ⟨BX, d, rfl, hOp, b2⟩
  have hW2 := HW0.out.trans (b2.mono HW0.out.size)
  have hS2 := HS0.out.below b2 HS0.out.lt
  have hO2 := own_keep HO0.out b2 (Nat.le_refl _)
  have hA2 : Apt (.slice (some ⟨w.heap.size + 1, 0, none⟩) 0 0) BX w2 := Apt.of_own hOp (fun k hk => by simp [Value.ownBlock] at hk; subst hk; simp)
  have hR2 := Rd.of_own hOp
  clear HW0 HS0 b2 hOp HO0 s0_0 s1_0 sl_0 hr0 HP
  have HW2 := Lib.hid hW2
  clear hW2
  have HS2 := Lib.hid hS2
  clear hS2
  have HO2 := Lib.hid hO2
  clear hO2
  have HA2 := Lib.hid hA2
  clear hA2
  have HR2 := Lib.hid hR2
  clear hR2
  go_wp2_with fail
  go_loopw [3, 10] (fun v iv wr => ∃ (q : Nat) (B : Option Addr) (d m : Nat), q ≤ z ∧ iv = .int .i64 (q : Int) ∧ v = .slice B m d ∧ m ≤ q ∧ Hid (m = ((X.take q).filter (fun p => !joinedP l rs p)).length) ∧ Bk wr w.heap.size 25 #[.int .i64 l, .slice A n c] ∧ wr.ownsRow (w.heap.size + 1) 77 5 (.slice B m d) m (cellsPair ((X.take q).filter (fun p => !joinedP l rs p))) ∧ Rd wr BX (cellsPair X) ∧ Apt (.slice B m d) BX wr ∧ Below w.heap.size w wr) (fun _ iv _ => z - (intOf iv).toNat)
  case atStart => exact ⟨0, _, _, 0, Nat.zero_le _, rfl, rfl, Nat.le_refl _, Lib.hid rfl, HS2.out, by rw [H00.out]; exact HO2.out, HR2.out, HA2.out, HW2.out⟩
  case round =>
    clear HS2 HO2 HW2 HR2 HA2 H00
    obtain ⟨q, B, d', m, hq, rfl, rfl, hmq, HM, hS, hO, hR, hA, hW⟩ := hrel
    by_cases hlt : q < z
    · have hqX : q < X.length := by rw [← Hzz.out]; exact hlt
      obtain ⟨b9, o9, hBe, hbl9, p0, p1, p2, p3, p4⟩ := rd_Pair hR hqX
      have hxs := HXs.out X[q] (List.getElem_mem hqX)
      obtain ⟨⟨v0, v1, v2, v3, v4⟩, hv⟩ : ∃ v, v = X[q] := ⟨_, rfl⟩
      rw [← hv] at p0 p1 p2 p3 p4 hxs
      dsimp only at p0 p1 p2 p3 p4 hxs
      subst hBe
      obtain ⟨bx, hbx⟩ : ∃ b, b = wr.heap.size := ⟨_, rfl⟩
      have hS1 := hS.alloc (.cells #[.string v0, .int .i64 v1, .int .i64 v2, .int .i64 v3, .int .i64 v4] 77)
      have hO1 := hO.alloc (.cells #[.string v0, .int .i64 v1, .int .i64 v2, .int .i64 v3, .int .i64 v4] 77)
      have hbel := (Below.refl wr.heap.size wr).alloc (Nat.le_refl _) (.cells #[.string v0, .int .i64 v1, .int .i64 v2, .int .i64 v3, .int .i64 v4] 77)
      have hR1 := hR.keep hbel
      have hA1 := hA.below hbel
      have hW1 := hW.alloc hW.size (.cells #[.string v0, .int .i64 v1, .int .i64 v2, .int .i64 v3, .int .i64 v4] 77)
      have hB1 := Bk.new wr 77 #[.string v0, .int .i64 v1, .int .i64 v2, .int .i64 v3, .int .i64 v4]
      have t0 : (wr.alloc (.cells #[.string v0, .int .i64 v1, .int .i64 v2, .int .i64 v3, .int .i64 v4] 77)).cell? ⟨w.heap.size, 0, none⟩ = some (.int .i64 l) := by rw [hS1.cell]; rfl
      have t1 : (wr.alloc (.cells #[.string v0, .int .i64 v1, .int .i64 v2, .int .i64 v3, .int .i64 v4] 77)).cell? ⟨w.heap.size, 1, none⟩ = some (.slice A n c) := by rw [hS1.cell]; rfl
      have tl := hS.lt
      have hT2 : (X.take (q + 1)).filter (fun p => !joinedP l rs p) = (X.take q).filter (fun p => !joinedP l rs p) ++ (if joined l rs v0 v1 v2 v3 v4 then [] else [(v0, v1, v2, v3, v4)]) := by
        rw [List.take_succ_eq_append_getElem hqX, List.filter_append, ← hv]
        have e : joinedP l rs (v0, v1, v2, v3, v4) = joined l rs v0 v1 v2 v3 v4 := rfl
        cases hj : joined l rs v0 v1 v2 v3 v4 <;> simp [List.filter_cons, e, hj]
      have hJ := fun (W : World) (hw : Rd W A (cellsRule rs)) => specIsJoined_any l A n c rs v0 v1 v2 v3 v4 W hw Hn.out hb Hz.out (by omega)
      obtain ⟨r, hrr⟩ : ∃ r, r = joined l rs v0 v1 v2 v3 v4 := ⟨_, rfl⟩
      rw [← hrr] at hT2 hJ
      have hr1 := Hr.out.keep hW1
      clear hS hO hR hA hW hbel
      have Hv := Lib.hid hv
      clear hv
      have Hbx := Lib.hid hbx
      clear hbx
      have HS1 := Lib.hid hS1
      clear hS1
      have HO1 := Lib.hid hO1
      clear hO1
      have HR1 := Lib.hid hR1
      clear hR1
      have HA1 := Lib.hid hA1
      clear hA1
      have HW1 := Lib.hid hW1
      clear hW1
      have HB1 := Lib.hid hB1
      clear hB1
      have HT2 := Lib.hid hT2
      clear hT2
      have HJ := Lib.hid hJ
      clear hJ
      have Hrr := Lib.hid hrr
      clear hrr
      have Hbl9 := Lib.hid hbl9
      clear hbl9
      go_wp2_with fail
      refine (HJ.out _ hr1).mono ?_
      rintro e w3 ⟨rfl, b3⟩
      have hS3 := HS1.out.below b3 HS1.out.lt
      have hO3 := own_keep HO1.out b3 (Nat.le_refl _)
      have hR3 := HR1.out.keep b3
      have hA3 := HA1.out.below b3
      have hW3 := HW1.out.trans (b3.mono HW1.out.size)
      have hB3 := (HB1.out.below b3 HB1.out.lt).cast Hbx.out.symm
      try rw [← Hbx.out]
      clear b3 HS1 HO1 HR1 HA1 HW1 HB1 HJ hr1 t0 t1 tl p0 p1 p2 p3 p4
      cases r
      · have hT3 : (X.take (q + 1)).filter (fun p => !joinedP l rs p) = (X.take q).filter (fun p => !joinedP l rs p) ++ [(v0, v1, v2, v3, v4)] := by rw [HT2.out]; rfl
        have q0 : w3.cell? ⟨bx, 0, none⟩ = some (.string v0) := by rw [hB3.cell]; rfl
        have q1 : w3.cell? ⟨bx, 1, none⟩ = some (.int .i64 v1) := by rw [hB3.cell]; rfl
        have q2 : w3.cell? ⟨bx, 2, none⟩ = some (.int .i64 v2) := by rw [hB3.cell]; rfl
        have q3 : w3.cell? ⟨bx, 3, none⟩ = some (.int .i64 v3) := by rw [hB3.cell]; rfl
        have q4 : w3.cell? ⟨bx, 4, none⟩ = some (.int .i64 v4) := by rw [hB3.cell]; rfl
        have ql := hB3.lt
        have hws : w.heap.size + 1 ≤ w3.heap.size := hS3.lt
        have HT3 := Lib.hid hT3
        clear hT3
        have HS3 := Lib.hid hS3
        clear hS3
        have HR3 := Lib.hid hR3
        clear hR3
        have HA3 := Lib.hid hA3
        clear hA3
        have HW3 := Lib.hid hW3
        clear hW3
        have HB3 := Lib.hid hB3
        clear hB3
        go_wp2_with (at_builtin; refine wpList_app5 _ w3 _ rfl rfl _ _ 47 rfl (w.heap.size + 1) 77 5 48 _ Tryz.underlying47 info_Pair rfl (by omega) (.slice B m d') m _ _ rfl rfl rfl hO3 rfl (one_cell_pair1 _ _ _ _ _) (by omega) (by unfold maxLen; omega) (by omega) ?_; intro g5 c5 w5 hO5 hW5 hG5 hat5)
        have hS6 := HS3.out.below hW5 (by omega)
        have hO6 : w5.ownsRow (w.heap.size + 1) 77 5 (.slice (some ⟨g5, 0, none⟩) (m + 1) c5) (m + 1) (cellsPair ((X.take (q + 1)).filter (fun p => !joinedP l rs p))) := by rw [HT3.out, cellsPair_snoc1]; exact hO5
        have hR6 := HA3.out.rd HR3.out hG5
        have hA6 := HA3.out.next (n := m + 1) (c := c5) hG5 hat5
        have hW6 := HW3.out.trans (hW5.mono (by omega))
        have hM6 : m + 1 = ((X.take (q + 1)).filter (fun p => !joinedP l rs p)).length := by rw [HT3.out, List.length_append, ← HM.out]; rfl
        clear hO5 hW5 hG5 hat5 HS3 HR3 HA3 HW3 HB3 hO3
        have HR6 := Lib.hid hR6
        clear hR6
        have HA6 := Lib.hid hA6
        clear hA6
        have HS6 := Lib.hid hS6
        clear hS6
        have HW6 := Lib.hid hW6
        clear hW6
        have HO6 := Lib.hid hO6
        clear hO6
        have HM6 := Lib.hid hM6
        clear hM6
        go_wp2_with fail
        go_roundw
        case rel => exact ⟨q + 1, some ⟨g5, 0, none⟩, c5, m + 1, by omega, by go_num, rfl, by omega, HM6, HS6.out, HO6.out, HR6.out, HA6.out, HW6.out⟩
        case measure => simp [intOf] <;> omega
      · have hT3 : (X.take (q + 1)).filter (fun p => !joinedP l rs p) = (X.take q).filter (fun p => !joinedP l rs p) := by rw [HT2.out, if_pos rfl, List.append_nil]
        have HT3 := Lib.hid hT3
        clear hT3
        have HS3 := Lib.hid hS3
        clear hS3
        have HR3 := Lib.hid hR3
        clear hR3
        have HA3 := Lib.hid hA3
        clear hA3
        have HW3 := Lib.hid hW3
        clear hW3
        have HB3 := Lib.hid hB3
        clear hB3
        have HO3 := Lib.hid hO3
        clear hO3
        go_wp2_with fail
        go_roundw
        case rel => exact ⟨q + 1, B, d', m, by omega, by go_num, rfl, by omega, by rw [HT3.out]; exact HM, HS3.out, by rw [HT3.out]; exact HO3.out, HR3.out, HA3.out, HW3.out⟩
        case measure => simp [intOf] <;> omega
    · have : q = z := by omega
      subst this
      have hT : (X.take q).filter (fun p => !joinedP l rs p) = F := by rw [HF.out, List.take_of_length_le (by rw [← Hzz.out]; exact Nat.le_refl _)]
      have hO9 := own_mono (b' := w.heap.size) hO (by omega)
      rw [hT] at hO9
      have hM9 := HM.out
      rw [hT] at hM9
      clear hO HM
      have HT := Lib.hid hT
      clear hT
      have HR := Lib.hid hR
      clear hR
      have HA := Lib.hid hA
      clear hA
      have HO9 := Lib.hid hO9
      clear hO9
      have HM9 := Lib.hid hM9
      clear hM9
      have HS := Lib.hid hS
      clear hS
      have HW := Lib.hid hW
      clear hW
      go_wp2_with fail
      go_ret
      rw [← HM9.out]
      exact ⟨B, d', rfl, HO9.out, HW.out⟩

set_option maxRecDepth 100000 in
set_option maxHeartbeats 1000000 in
theorem specIsComplete_any (l : Int) (A : Option Addr) (n c : Nat) (rs : List RuleT) (w : World) (hr : Rd w A (cellsRule rs)) (hn : n = rs.length) (hb : n ≤ 1048576) (hz : ∀ x ∈ rs, x.1.size ≤ 1048576 ∧ x.2.size ≤ 1048576) :
    Calls Tryz.prog 23 #[.agg #[.int .i64 l, .slice A n c]] w (Kept w (.bool (isCompl l rs))) := by
  have hW0 : Below w.heap.size w (w.alloc (.cells #[.int .i64 l, .slice A n c] 25)) := (Below.refl _ _).alloc (Nat.le_refl _) _
  have hS0 := Bk.new w 25 #[.int .i64 l, .slice A n c]
  have hol := opAll_len l rs
  have Hr := Lib.hid hr
  clear hr
  have Hn := Lib.hid hn
  clear hn
  have Hz := Lib.hid hz
  clear hz
  go_enter Tryz.func23, Tryz.ntmps23
  go_wp2_with fail
  with_reducible refine (specSystemOk_any l A n c rs _ (Hr.out.keep hW0) Hn.out hb Hz.out).mono ?_
  rintro e w1 ⟨rfl, b1⟩
  have hW1 := hW0.trans (b1.mono hW0.size)
  have hS1 := hS0.below b1 hS0.lt
  have s0_1 : w1.cell? ⟨w.heap.size, 0, none⟩ = some (.int .i64 l) := by rw [hS1.cell]; rfl
  have s1_1 : w1.cell? ⟨w.heap.size, 1, none⟩ = some (.slice A n c) := by rw [hS1.cell]; rfl
  have sl_1 := hS1.lt
  clear b1
  obtain ⟨r1, hrr⟩ : ∃ r', r' = (systemOk l rs) := ⟨_, rfl⟩
  rw [← hrr]
  have H1 := Lib.hid hrr
  clear hrr
  cases r1
  · have e1 : isCompl l rs = false := by rw [isCompl, ← H1.out]; rfl
    have E1 := Lib.hid e1
    clear e1
    go_wp2_with fail
    go_ret
    exact ⟨ret_bool (by rw [E1.out]), hW1⟩
  have e1 : isCompl l rs = decide ((opAll l rs).length = 0) := by rw [isCompl, ← H1.out]; rfl
  have hO := specOpenPairs_any l A n c rs w1 (Hr.out.keep hW1) Hn.out hb Hz.out
  obtain ⟨m, hm⟩ : ∃ m, m = (opAll l rs).length := ⟨_, rfl⟩
  rw [← hm] at e1 hO hol
  have E1 := Lib.hid e1
  clear e1
  have HO := Lib.hid hO
  clear hO
  have Hm := Lib.hid hm
  clear hm
  go_wp2_with fail
  refine HO.out.mono ?_
  rintro e w2 ⟨B, d, rfl, hO2, b2⟩
  have hW2 := hW1.trans (b2.mono hW1.size)
  clear hO2 b2
  have hq : ((m : Int) == 0) = decide (m = 0) := by
    by_cases h : m = 0
    · subst h; rfl
    · rw [decide_eq_false h]; simp; omega
  by_cases h : m = 0
  · subst h
    go_wp2_with fail
    go_ret
    exact ⟨ret_bool (by rw [E1.out]; rfl), hW2⟩
  · rw [decide_eq_false h] at hq
    have e2 : isCompl l rs = false := by rw [E1.out, decide_eq_false h]
    have h0 : ¬ (m : Int) = 0 := by omega
    clear E1
    have E2 := Lib.hid e2
    clear e2
    go_wp2_with fail
    go_ret
    exact ⟨ret_bool (by rw [E2.out]), hW2⟩

set_option maxRecDepth 100000 in
set_option maxHeartbeats 1000000 in
theorem implIsComplete_any (l : Int) (A : Option Addr) (n c : Nat) (rs : List RuleT) (w : World) (hr : Rd w A (cellsRule rs)) (hn : n = rs.length) (hb : n ≤ 1048576) (hz : ∀ x ∈ rs, x.1.size ≤ 1048576 ∧ x.2.size ≤ 1048576) :
    Calls Tryz.prog 6 #[.agg #[.int .i64 l, .slice A n c]] w (Kept w (.bool (isCompl l rs))) := by
  have hW0 : Below w.heap.size w (w.alloc (.cells #[.int .i64 l, .slice A n c] 25)) := (Below.refl _ _).alloc (Nat.le_refl _) _
  have hS0 := Bk.new w 25 #[.int .i64 l, .slice A n c]
  have hol := opAll_len l rs
  have Hr := Lib.hid hr
  clear hr
  have Hn := Lib.hid hn
  clear hn
  have Hz := Lib.hid hz
  clear hz
  go_enter Tryz.func6, Tryz.ntmps6
  go_wp2_with fail
  with_reducible refine (implSystemOk_any l A n c rs _ (Hr.out.keep hW0) Hn.out hb Hz.out).mono ?_
  rintro e w1 ⟨rfl, b1⟩
  have hW1 := hW0.trans (b1.mono hW0.size)
  have hS1 := hS0.below b1 hS0.lt
  have s0_1 : w1.cell? ⟨w.heap.size, 0, none⟩ = some (.int .i64 l) := by rw [hS1.cell]; rfl
  have s1_1 : w1.cell? ⟨w.heap.size, 1, none⟩ = some (.slice A n c) := by rw [hS1.cell]; rfl
  have sl_1 := hS1.lt
  clear b1
  obtain ⟨r1, hrr⟩ : ∃ r', r' = (systemOk l rs) := ⟨_, rfl⟩
  rw [← hrr]
  have H1 := Lib.hid hrr
  clear hrr
  cases r1
  · have e1 : isCompl l rs = false := by rw [isCompl, ← H1.out]; rfl
    have E1 := Lib.hid e1
    clear e1
    go_wp2_with fail
    go_ret
    exact ⟨ret_bool (by rw [E1.out]), hW1⟩
  have e1 : isCompl l rs = decide ((opAll l rs).length = 0) := by rw [isCompl, ← H1.out]; rfl
  have hO := implOpenPairs_any l A n c rs w1 (Hr.out.keep hW1) Hn.out hb Hz.out
  obtain ⟨m, hm⟩ : ∃ m, m = (opAll l rs).length := ⟨_, rfl⟩
  rw [← hm] at e1 hO hol
  have E1 := Lib.hid e1
  clear e1
  have HO := Lib.hid hO
  clear hO
  have Hm := Lib.hid hm
  clear hm
  go_wp2_with fail
  refine HO.out.mono ?_
  rintro e w2 ⟨B, d, rfl, hO2, b2⟩
  have hW2 := hW1.trans (b2.mono hW1.size)
  clear hO2 b2
  have hq : ((m : Int) == 0) = decide (m = 0) := by
    by_cases h : m = 0
    · subst h; rfl
    · rw [decide_eq_false h]; simp; omega
  by_cases h : m = 0
  · subst h
    go_wp2_with fail
    go_ret
    exact ⟨ret_bool (by rw [E1.out]; rfl), hW2⟩
  · rw [decide_eq_false h] at hq
    have e2 : isCompl l rs = false := by rw [E1.out, decide_eq_false h]
    have h0 : ¬ (m : Int) = 0 := by omega
    clear E1
    have E2 := Lib.hid e2
    clear e2
    go_wp2_with fail
    go_ret
    exact ⟨ret_bool (by rw [E2.out]), hW2⟩



end Go.Proofs.YteafeecndghapaaGreat
