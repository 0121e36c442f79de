/- Walks over OpenPairs of the reference, and IsComplete and CountPairs of both. -/
import Derived.Test.YtnlagiopmkjmlaaOpn
namespace Go.Proofs.Ytnlagiopmkjmlaa
open Go.RowKit Go.Shelf

set_option maxRecDepth 100000 in
set_option maxHeartbeats 4000000 in
theorem specOpenPairs_any (l : Int) (A : Option Addr) (n c : Nat) (rs : List RuleT) (w : World) (hr : Rd w A (cellsRule rs)) (hn : n = rs.length) (hb : n ≤ 1048576) (hz : ∀ x ∈ rs, x.1.size ≤ 1048576 ∧ x.2.size ≤ 1048576) :
    Calls Try.prog 40 #[.agg #[.int .i64 l, .slice A n c]] w (MadeSl w 114 5 (opAll l rs).length (cellsPair (opAll l rs))) := by
  have hO0 := own_of_bk (base := w.heap.size + 1) (m := 5) (n := 0) ((Bk.new (w.alloc (.cells #[.int .i64 l, .slice A n c] 29)) 114 #[]).cast (g' := w.heap.size + 1) (by simp)) (Nat.le_refl _) rfl (by unfold maxLen; omega)
  have hW0 : Below w.heap.size w ((w.alloc (.cells #[.int .i64 l, .slice A n c] 29)).alloc (.cells #[] 114)) := ((Below.refl _ _).alloc (Nat.le_refl _) _).alloc (by simp) _
  have hS0 := (Bk.new w 29 #[.int .i64 l, .slice A n c]).alloc (.cells #[] 114)
  have s0_0 : ((w.alloc (.cells #[.int .i64 l, .slice A n c] 29)).alloc (.cells #[] 114)).cell? ⟨w.heap.size, 0, none⟩ = some (.int .i64 l) := by rw [hS0.cell]; rfl
  have s1_0 : ((w.alloc (.cells #[.int .i64 l, .slice A n c] 29)).alloc (.cells #[] 114)).cell? ⟨w.heap.size, 1, none⟩ = some (.slice A n c) := by rw [hS0.cell]; rfl
  have sl_0 := hS0.lt
  have hpl := prAll_len l rs
  have hXs := prAll_sz l rs
  have hP := fun (W : World) (hw : Rd W A (cellsRule rs)) => specPairsOf_any l A n c rs W hw hn hb hz
  obtain ⟨X, hX⟩ : ∃ X, X = prAll l rs := ⟨_, rfl⟩
  have hF : opAll l rs = X.filter (fun p => !joinedP l rs p) := by rw [opAll, hX]
  obtain ⟨F, hF2⟩ : ∃ F, F = opAll l rs := ⟨_, rfl⟩
  rw [← hF2] at hF ⊢
  rw [← hX] at hpl hXs hP
  obtain ⟨z, hzz⟩ : ∃ m, m = X.length := ⟨_, rfl⟩
  rw [← hzz] at hpl hP
  have h00 : cellsPair ((X.take 0).filter (fun p => !joinedP l rs p)) = (#[] : Array Value).toList := by simp [cellsPair]
  have hr0 := hr.keep hW0
  have Hr := Lib.hid hr
  clear hr
  have Hn := Lib.hid hn
  clear hn
  have Hz := Lib.hid hz
  clear hz
  have HXs := Lib.hid hXs
  clear hXs
  have HP := Lib.hid hP
  clear hP
  have HX := Lib.hid hX
  clear hX
  have HF := Lib.hid hF
  clear hF
  have HF2 := Lib.hid hF2
  clear hF2
  have Hzz := Lib.hid hzz
  clear hzz
  have HO0 := Lib.hid hO0
  clear hO0
  have HW0 := Lib.hid hW0
  clear hW0
  have HS0 := Lib.hid hS0
  clear hS0
  have H00 := Lib.hid h00
  clear h00
  go_enter Try.func40, Try.ntmps40
  go_wp2_with fail
  refine (HP.out _ hr0).mono ?_
  rintro e w2 ⟨BX, d, rfl, hOp, b2⟩
  have hW2 := HW0.out.trans (b2.mono HW0.out.size)
  have hS2 := HS0.out.below b2 HS0.out.lt
  have hO2 := own_keep HO0.out b2 (Nat.le_refl _)
  have hA2 : Apt (.slice (some ⟨w.heap.size + 1, 0, none⟩) 0 0) BX w2 := Apt.of_own hOp (fun k hk => by simp [Value.ownBlock] at hk; subst hk; simp)
  have hR2 := Rd.of_own hOp
  clear HW0 HS0 b2 hOp HO0 s0_0 s1_0 sl_0 hr0 HP
  have HW2 := Lib.hid hW2
  clear hW2
  have HS2 := Lib.hid hS2
  clear hS2
  have HO2 := Lib.hid hO2
  clear hO2
  have HA2 := Lib.hid hA2
  clear hA2
  have HR2 := Lib.hid hR2
  clear hR2
  go_wp2_with fail
  go_loopw [3, 10] (fun v iv wr => ∃ (q : Nat) (B : Option Addr) (d m : Nat), q ≤ z ∧ iv = .int .i64 (q : Int) ∧ v = .slice B m d ∧ m ≤ q ∧ Hid (m = ((X.take q).filter (fun p => !joinedP l rs p)).length) ∧ Bk wr w.heap.size 29 #[.int .i64 l, .slice A n c] ∧ wr.ownsRow (w.heap.size + 1) 114 5 (.slice B m d) m (cellsPair ((X.take q).filter (fun p => !joinedP l rs p))) ∧ Rd wr BX (cellsPair X) ∧ Apt (.slice B m d) BX wr ∧ Below w.heap.size w wr) (fun _ iv _ => z - (intOf iv).toNat)
  case atStart => exact ⟨0, _, _, 0, Nat.zero_le _, rfl, rfl, Nat.le_refl _, Lib.hid rfl, HS2.out, by rw [H00.out]; exact HO2.out, HR2.out, HA2.out, HW2.out⟩
  case round =>
    clear HS2 HO2 HW2 HR2 HA2 H00
    obtain ⟨q, B, d', m, hq, rfl, rfl, hmq, HM, hS, hO, hR, hA, hW⟩ := hrel
    by_cases hlt : q < z
    · have hqX : q < X.length := by rw [← Hzz.out]; exact hlt
      obtain ⟨b9, o9, hBe, hbl9, p0, p1, p2, p3, p4⟩ := rd_Pair hR hqX
      have hxs := HXs.out X[q] (List.getElem_mem hqX)
      obtain ⟨⟨v0, v1, v2, v3, v4⟩, hv⟩ : ∃ v, v = X[q] := ⟨_, rfl⟩
      rw [← hv] at p0 p1 p2 p3 p4 hxs
      dsimp only at p0 p1 p2 p3 p4 hxs
      subst hBe
      obtain ⟨bx, hbx⟩ : ∃ b, b = wr.heap.size := ⟨_, rfl⟩
      have hS1 := hS.alloc (.cells #[.string v0, .int .i64 v1, .int .i64 v2, .int .i64 v3, .int .i64 v4] 114)
      have hO1 := hO.alloc (.cells #[.string v0, .int .i64 v1, .int .i64 v2, .int .i64 v3, .int .i64 v4] 114)
      have hbel := (Below.refl wr.heap.size wr).alloc (Nat.le_refl _) (.cells #[.string v0, .int .i64 v1, .int .i64 v2, .int .i64 v3, .int .i64 v4] 114)
      have hR1 := hR.keep hbel
      have hA1 := hA.below hbel
      have hW1 := hW.alloc hW.size (.cells #[.string v0, .int .i64 v1, .int .i64 v2, .int .i64 v3, .int .i64 v4] 114)
      have hB1 := Bk.new wr 114 #[.string v0, .int .i64 v1, .int .i64 v2, .int .i64 v3, .int .i64 v4]
      have t0 : (wr.alloc (.cells #[.string v0, .int .i64 v1, .int .i64 v2, .int .i64 v3, .int .i64 v4] 114)).cell? ⟨w.heap.size, 0, none⟩ = some (.int .i64 l) := by rw [hS1.cell]; rfl
      have t1 : (wr.alloc (.cells #[.string v0, .int .i64 v1, .int .i64 v2, .int .i64 v3, .int .i64 v4] 114)).cell? ⟨w.heap.size, 1, none⟩ = some (.slice A n c) := by rw [hS1.cell]; rfl
      have tl := hS.lt
      have hT2 : (X.take (q + 1)).filter (fun p => !joinedP l rs p) = (X.take q).filter (fun p => !joinedP l rs p) ++ (if joined l rs v0 v1 v2 v3 v4 then [] else [(v0, v1, v2, v3, v4)]) := by
        rw [List.take_succ_eq_append_getElem hqX, List.filter_append, ← hv]
        have e : joinedP l rs (v0, v1, v2, v3, v4) = joined l rs v0 v1 v2 v3 v4 := rfl
        cases hj : joined l rs v0 v1 v2 v3 v4 <;> simp [List.filter_cons, e, hj]
      have hJ := fun (W : World) (hw : Rd W A (cellsRule rs)) => specIsJoined_any l A n c rs v0 v1 v2 v3 v4 W hw Hn.out hb Hz.out (by omega)
      obtain ⟨r, hrr⟩ : ∃ r, r = joined l rs v0 v1 v2 v3 v4 := ⟨_, rfl⟩
      rw [← hrr] at hT2 hJ
      have hr1 := Hr.out.keep hW1
      clear hS hO hR hA hW hbel
      have Hv := Lib.hid hv
      clear hv
      have Hbx := Lib.hid hbx
      clear hbx
      have HS1 := Lib.hid hS1
      clear hS1
      have HO1 := Lib.hid hO1
      clear hO1
      have HR1 := Lib.hid hR1
      clear hR1
      have HA1 := Lib.hid hA1
      clear hA1
      have HW1 := Lib.hid hW1
      clear hW1
      have HB1 := Lib.hid hB1
      clear hB1
      have HT2 := Lib.hid hT2
      clear hT2
      have HJ := Lib.hid hJ
      clear hJ
      have Hrr := Lib.hid hrr
      clear hrr
      have Hbl9 := Lib.hid hbl9
      clear hbl9
      go_wp2_with fail
      refine (HJ.out _ hr1).mono ?_
      rintro e w3 ⟨rfl, b3⟩
      have hS3 := HS1.out.below b3 HS1.out.lt
      have hO3 := own_keep HO1.out b3 (Nat.le_refl _)
      have hR3 := HR1.out.keep b3
      have hA3 := HA1.out.below b3
      have hW3 := HW1.out.trans (b3.mono HW1.out.size)
      have hB3 := (HB1.out.below b3 HB1.out.lt).cast Hbx.out.symm
      try rw [← Hbx.out]
      clear b3 HS1 HO1 HR1 HA1 HW1 HB1 HJ hr1 t0 t1 tl p0 p1 p2 p3 p4
      cases r
      · have hT3 : (X.take (q + 1)).filter (fun p => !joinedP l rs p) = (X.take q).filter (fun p => !joinedP l rs p) ++ [(v0, v1, v2, v3, v4)] := by rw [HT2.out]; rfl
        have q0 : w3.cell? ⟨bx, 0, none⟩ = some (.string v0) := by rw [hB3.cell]; rfl
        have q1 : w3.cell? ⟨bx, 1, none⟩ = some (.int .i64 v1) := by rw [hB3.cell]; rfl
        have q2 : w3.cell? ⟨bx, 2, none⟩ = some (.int .i64 v2) := by rw [hB3.cell]; rfl
        have q3 : w3.cell? ⟨bx, 3, none⟩ = some (.int .i64 v3) := by rw [hB3.cell]; rfl
        have q4 : w3.cell? ⟨bx, 4, none⟩ = some (.int .i64 v4) := by rw [hB3.cell]; rfl
        have ql := hB3.lt
        have hws : w.heap.size + 1 ≤ w3.heap.size := hS3.lt
        have HT3 := Lib.hid hT3
        clear hT3
        have HS3 := Lib.hid hS3
        clear hS3
        have HR3 := Lib.hid hR3
        clear hR3
        have HA3 := Lib.hid hA3
        clear hA3
        have HW3 := Lib.hid hW3
        clear hW3
        have HB3 := Lib.hid hB3
        clear hB3
        go_wp2_with (at_builtin; refine wpList_app5 _ w3 _ rfl rfl _ _ 54 rfl (w.heap.size + 1) 114 5 48 _ Try.underlying54 info_Pair rfl (by omega) (.slice B m d') m _ _ rfl rfl rfl hO3 rfl (one_cell_pair1 _ _ _ _ _) (by omega) (by unfold maxLen; omega) (by omega) ?_; intro g5 c5 w5 hO5 hW5 hG5 hat5)
        have hS6 := HS3.out.below hW5 (by omega)
        have hO6 : w5.ownsRow (w.heap.size + 1) 114 5 (.slice (some ⟨g5, 0, none⟩) (m + 1) c5) (m + 1) (cellsPair ((X.take (q + 1)).filter (fun p => !joinedP l rs p))) := by rw [HT3.out, cellsPair_snoc1]; exact hO5
        have hR6 := HA3.out.rd HR3.out hG5
        have hA6 := HA3.out.next (n := m + 1) (c := c5) hG5 hat5
        have hW6 := HW3.out.trans (hW5.mono (by omega))
        have hM6 : m + 1 = ((X.take (q + 1)).filter (fun p => !joinedP l rs p)).length := by rw [HT3.out, List.length_append, ← HM.out]; rfl
        clear hO5 hW5 hG5 hat5 HS3 HR3 HA3 HW3 HB3 hO3
        have HR6 := Lib.hid hR6
        clear hR6
        have HA6 := Lib.hid hA6
        clear hA6
        have HS6 := Lib.hid hS6
        clear hS6
        have HW6 := Lib.hid hW6
        clear hW6
        have HO6 := Lib.hid hO6
        clear hO6
        have HM6 := Lib.hid hM6
        clear hM6
        go_wp2_with fail
        go_roundw
        case rel => exact ⟨q + 1, some ⟨g5, 0, none⟩, c5, m + 1, by omega, by go_num, rfl, by omega, HM6, HS6.out, HO6.out, HR6.out, HA6.out, HW6.out⟩
        case measure => simp [intOf] <;> omega
      · have hT3 : (X.take (q + 1)).filter (fun p => !joinedP l rs p) = (X.take q).filter (fun p => !joinedP l rs p) := by rw [HT2.out, if_pos rfl, List.append_nil]
        have HT3 := Lib.hid hT3
        clear hT3
        have HS3 := Lib.hid hS3
        clear hS3
        have HR3 := Lib.hid hR3
        clear hR3
        have HA3 := Lib.hid hA3
        clear hA3
        have HW3 := Lib.hid hW3
        clear hW3
        have HB3 := Lib.hid hB3
        clear hB3
        have HO3 := Lib.hid hO3
        clear hO3
        go_wp2_with fail
        go_roundw
        case rel => exact ⟨q + 1, B, d', m, by omega, by go_num, rfl, by omega, by rw [HT3.out]; exact HM, HS3.out, by rw [HT3.out]; exact HO3.out, HR3.out, HA3.out, HW3.out⟩
        case measure => simp [intOf] <;> omega
    · have : q = z := by omega
      subst this
      have hT : (X.take q).filter (fun p => !joinedP l rs p) = F := by rw [HF.out, List.take_of_length_le (by rw [← Hzz.out]; exact Nat.le_refl _)]
      have hO9 := own_mono (b' := w.heap.size) hO (by omega)
      rw [hT] at hO9
      have hM9 := HM.out
      rw [hT] at hM9
      clear hO HM
      have HT := Lib.hid hT
      clear hT
      have HR := Lib.hid hR
      clear hR
      have HA := Lib.hid hA
      clear hA
      have HO9 := Lib.hid hO9
      clear hO9
      have HM9 := Lib.hid hM9
      clear hM9
      have HS := Lib.hid hS
      clear hS
      have HW := Lib.hid hW
      clear hW
      go_wp2_with fail
      go_ret
      rw [← HM9.out]
      exact ⟨B, d', rfl, HO9.out, HW.out⟩

set_option maxRecDepth 100000 in
set_option maxHeartbeats 1000000 in
theorem specIsComplete_any (l : Int) (A : Option Addr) (n c : Nat) (rs : List RuleT) (w : World) (hr : Rd w A (cellsRule rs)) (hn : n = rs.length) (hb : n ≤ 1048576) (hz : ∀ x ∈ rs, x.1.size ≤ 1048576 ∧ x.2.size ≤ 1048576) :
    Calls Try.prog 38 #[.agg #[.int .i64 l, .slice A n c]] w (Kept w (.bool (isCompl l rs))) := by
  have hW0 : Below w.heap.size w (w.alloc (.cells #[.int .i64 l, .slice A n c] 29)) := (Below.refl _ _).alloc (Nat.le_refl _) _
  have hS0 := Bk.new w 29 #[.int .i64 l, .slice A n c]
  have hol := opAll_len l rs
  have Hr := Lib.hid hr
  clear hr
  have Hn := Lib.hid hn
  clear hn
  have Hz := Lib.hid hz
  clear hz
  go_enter Try.func38, Try.ntmps38
  go_wp2_with fail
  with_reducible refine (specSystemOk_any l A n c rs _ (Hr.out.keep hW0) Hn.out hb Hz.out).mono ?_
  rintro e w1 ⟨rfl, b1⟩
  have hW1 := hW0.trans (b1.mono hW0.size)
  have hS1 := hS0.below b1 hS0.lt
  have s0_1 : w1.cell? ⟨w.heap.size, 0, none⟩ = some (.int .i64 l) := by rw [hS1.cell]; rfl
  have s1_1 : w1.cell? ⟨w.heap.size, 1, none⟩ = some (.slice A n c) := by rw [hS1.cell]; rfl
  have sl_1 := hS1.lt
  clear b1
  obtain ⟨r1, hrr⟩ : ∃ r', r' = (systemOk l rs) := ⟨_, rfl⟩
  rw [← hrr]
  have H1 := Lib.hid hrr
  clear hrr
  cases r1
  · have e1 : isCompl l rs = false := by rw [isCompl, ← H1.out]; rfl
    have E1 := Lib.hid e1
    clear e1
    go_wp2_with fail
    go_ret
    exact ⟨ret_bool (by rw [E1.out]), hW1⟩
  have e1 : isCompl l rs = decide ((opAll l rs).length = 0) := by rw [isCompl, ← H1.out]; rfl
  have hO := specOpenPairs_any l A n c rs w1 (Hr.out.keep hW1) Hn.out hb Hz.out
  obtain ⟨m, hm⟩ : ∃ m, m = (opAll l rs).length := ⟨_, rfl⟩
  rw [← hm] at e1 hO hol
  have E1 := Lib.hid e1
  clear e1
  have HO := Lib.hid hO
  clear hO
  have Hm := Lib.hid hm
  clear hm
  go_wp2_with fail
  refine HO.out.mono ?_
  rintro e w2 ⟨B, d, rfl, hO2, b2⟩
  have hW2 := hW1.trans (b2.mono hW1.size)
  clear hO2 b2
  have hq : ((m : Int) == 0) = decide (m = 0) := by
    by_cases h : m = 0
    · subst h; rfl
    · rw [decide_eq_false h]; simp; omega
  by_cases h : m = 0
  · subst h
    go_wp2_with fail
    go_ret
    exact ⟨ret_bool (by rw [E1.out]; rfl), hW2⟩
  · rw [decide_eq_false h] at hq
    have e2 : isCompl l rs = false := by rw [E1.out, decide_eq_false h]
    have h0 : ¬ (m : Int) = 0 := by omega
    clear E1
    have E2 := Lib.hid e2
    clear e2
    go_wp2_with fail
    go_ret
    exact ⟨ret_bool (by rw [E2.out]), hW2⟩

set_option maxRecDepth 100000 in
set_option maxHeartbeats 1000000 in
theorem implIsComplete_any (l : Int) (A : Option Addr) (n c : Nat) (rs : List RuleT) (w : World) (hr : Rd w A (cellsRule rs)) (hn : n = rs.length) (hb : n ≤ 1048576) (hz : ∀ x ∈ rs, x.1.size ≤ 1048576 ∧ x.2.size ≤ 1048576) :
    Calls Try.prog 39 #[.agg #[.int .i64 l, .slice A n c]] w (Kept w (.bool (isCompl l rs))) := by
  have hW0 : Below w.heap.size w (w.alloc (.cells #[.int .i64 l, .slice A n c] 29)) := (Below.refl _ _).alloc (Nat.le_refl _) _
  have hS0 := Bk.new w 29 #[.int .i64 l, .slice A n c]
  have hol := opAll_len l rs
  have Hr := Lib.hid hr
  clear hr
  have Hn := Lib.hid hn
  clear hn
  have Hz := Lib.hid hz
  clear hz
  go_enter Try.func39, Try.ntmps39
  go_wp2_with fail
  with_reducible refine (implSystemOk_any l A n c rs _ (Hr.out.keep hW0) Hn.out hb Hz.out).mono ?_
  rintro e w1 ⟨rfl, b1⟩
  have hW1 := hW0.trans (b1.mono hW0.size)
  have hS1 := hS0.below b1 hS0.lt
  have s0_1 : w1.cell? ⟨w.heap.size, 0, none⟩ = some (.int .i64 l) := by rw [hS1.cell]; rfl
  have s1_1 : w1.cell? ⟨w.heap.size, 1, none⟩ = some (.slice A n c) := by rw [hS1.cell]; rfl
  have sl_1 := hS1.lt
  clear b1
  obtain ⟨r1, hrr⟩ : ∃ r', r' = (systemOk l rs) := ⟨_, rfl⟩
  rw [← hrr]
  have H1 := Lib.hid hrr
  clear hrr
  cases r1
  · have e1 : isCompl l rs = false := by rw [isCompl, ← H1.out]; rfl
    have E1 := Lib.hid e1
    clear e1
    go_wp2_with fail
    go_ret
    exact ⟨ret_bool (by rw [E1.out]), hW1⟩
  have e1 : isCompl l rs = decide ((opAll l rs).length = 0) := by rw [isCompl, ← H1.out]; rfl
  have hO := implOpenPairs_any l A n c rs w1 (Hr.out.keep hW1) Hn.out hb Hz.out
  obtain ⟨m, hm⟩ : ∃ m, m = (opAll l rs).length := ⟨_, rfl⟩
  rw [← hm] at e1 hO hol
  have E1 := Lib.hid e1
  clear e1
  have HO := Lib.hid hO
  clear hO
  have Hm := Lib.hid hm
  clear hm
  go_wp2_with fail
  refine HO.out.mono ?_
  rintro e w2 ⟨B, d, rfl, hO2, b2⟩
  have hW2 := hW1.trans (b2.mono hW1.size)
  clear hO2 b2
  have hq : ((m : Int) == 0) = decide (m = 0) := by
    by_cases h : m = 0
    · subst h; rfl
    · rw [decide_eq_false h]; simp; omega
  by_cases h : m = 0
  · subst h
    go_wp2_with fail
    go_ret
    exact ⟨ret_bool (by rw [E1.out]; rfl), hW2⟩
  · rw [decide_eq_false h] at hq
    have e2 : isCompl l rs = false := by rw [E1.out, decide_eq_false h]
    have h0 : ¬ (m : Int) = 0 := by omega
    clear E1
    have E2 := Lib.hid e2
    clear e2
    go_wp2_with fail
    go_ret
    exact ⟨ret_bool (by rw [E2.out]), hW2⟩

set_option maxRecDepth 100000 in
set_option maxHeartbeats 2000000 in
theorem specCountPairs_any (l : Int) (A : Option Addr) (n c : Nat) (rs : List RuleT) (w : World) (hr : Rd w A (cellsRule rs)) (hn : n = rs.length) (hb : n ≤ 1048576) (hz : ∀ x ∈ rs, x.1.size ≤ 1048576 ∧ x.2.size ≤ 1048576) :
    Calls Try.prog 36 #[.agg #[.int .i64 l, .slice A n c]] w (Kept w (.tuple #[.int .i64 (((prAll l rs).length : Nat) : Int), .int .i64 (((opAll l rs).length : Nat) : Int)])) := by
  have hW0 : Below w.heap.size w (w.alloc (.cells #[.int .i64 l, .slice A n c] 29)) := (Below.refl _ _).alloc (Nat.le_refl _) _
  have hS0 := Bk.new w 29 #[.int .i64 l, .slice A n c]
  have hpl := prAll_len l rs
  have hol := opAll_len l rs
  have hP := fun (W : World) (hw : Rd W A (cellsRule rs)) => specPairsOf_any l A n c rs W hw hn hb hz
  have hO := fun (W : World) (hw : Rd W A (cellsRule rs)) => specOpenPairs_any l A n c rs W hw hn hb hz
  obtain ⟨z, hzz⟩ : ∃ m, m = (prAll l rs).length := ⟨_, rfl⟩
  obtain ⟨m, hm⟩ : ∃ m, m = (opAll l rs).length := ⟨_, rfl⟩
  rw [← hzz] at hpl hP
  rw [← hm] at hol hO
  rw [← hzz, ← hm]
  have eS : ∀ W, Below (w.alloc (.cells #[.int .i64 l, .slice A n c] 29)).drew.heap.size (w.alloc (.cells #[.int .i64 l, .slice A n c] 29)).drew W → W.cell? ⟨w.heap.size, 0, none⟩ = some (.int .i64 l) ∧ W.cell? ⟨w.heap.size, 1, none⟩ = some (.slice A n c) := fun W hb => by
    have h := hS0.drew.below hb hS0.drew.lt
    exact ⟨by rw [h.cell]; rfl, by rw [h.cell]; rfl⟩
  have eR : ∀ W, Below (w.alloc (.cells #[.int .i64 l, .slice A n c] 29)).drew.heap.size (w.alloc (.cells #[.int .i64 l, .slice A n c] 29)).drew W → Rd W A (cellsRule rs) := fun W hb => hr.keep (hW0.drew.trans (hb.mono hW0.drew.size))
  have hB0 : Below (w.alloc (.cells #[.int .i64 l, .slice A n c] 29)).drew.heap.size (w.alloc (.cells #[.int .i64 l, .slice A n c] 29)).drew (w.alloc (.cells #[.int .i64 l, .slice A n c] 29)).drew := Below.refl _ _
  have hW0d := hW0.drew
  clear hS0
  have Hr := Lib.hid hr
  clear hr
  have Hn := Lib.hid hn
  clear hn
  have Hz := Lib.hid hz
  clear hz
  have HP := Lib.hid hP
  clear hP
  have HO := Lib.hid hO
  clear hO
  have Hzz := Lib.hid hzz
  clear hzz
  have Hm := Lib.hid hm
  clear hm
  have ES := Lib.hid eS
  clear eS
  have ER := Lib.hid eR
  clear eR
  have HW0 := Lib.hid hW0
  clear hW0
  have HW0d := Lib.hid hW0d
  clear hW0d
  go_enter Try.func36, Try.ntmps36
  go_wp2_with fail
  refine wp_region_held_drew (S := (fun W => W.cell? ⟨w.heap.size, 0, none⟩ = some (.int .i64 l) ∧ W.cell? ⟨w.heap.size, 1, none⟩ = some (.slice A n c))) (by kernel_rfl) (ES.out _ hB0) (fun hHeld => ?_)
  refine wpAnyH_take (i := 0) (oi := ?oi416) (v := ?val416) ?hi416 ?hs416 ?hf416 ?hr416 ?hQ416 ?hy416 ?hS416 ?hrest416
  case hi416 => (simp only [List.getElem?_toArray, List.getElem?_cons_succ, List.getElem?_cons_zero] <;> exact rfl)
  case hs416 => kernel_rfl
  case hf416 => kernel_rfl
  case hr416 => kernel_rfl
  case hQ416 => exact fun _ _ _ h => h
  case hS416 => assumption
  case hy416 => (refine Or.inl ⟨by rfl, ?_⟩; intro w hSw; (try dsimp only at hSw); (first | obtain ⟨z0, z1, z2, z3, z4, z5⟩ := hSw | obtain ⟨z0, z1, z2, z3⟩ := hSw | obtain ⟨z0, z1, z2⟩ := hSw | obtain ⟨z0, z1⟩ := hSw | skip); go_simp; try with_reducible rfl)
  simp only [Act.put, List.setIfInBounds_toArray, List.set_cons_zero, List.set_cons_succ]
  refine wpAnyH_take (i := 3) (oi := ?oi425) (v := ?val425) ?hi425 ?hs425 ?hf425 ?hr425 ?hQ425 ?hy425 ?hS425 ?hrest425
  case hi425 => (simp only [List.getElem?_toArray, List.getElem?_cons_succ, List.getElem?_cons_zero] <;> exact rfl)
  case hs425 => kernel_rfl
  case hf425 => kernel_rfl
  case hr425 => kernel_rfl
  case hQ425 => exact fun _ _ _ h => h
  case hS425 => assumption
  case hy425 => (refine Or.inl ⟨by rfl, ?_⟩; intro w hSw; (try dsimp only at hSw); (first | obtain ⟨z0, z1, z2, z3, z4, z5⟩ := hSw | obtain ⟨z0, z1, z2, z3⟩ := hSw | obtain ⟨z0, z1, z2⟩ := hSw | obtain ⟨z0, z1⟩ := hSw | skip); go_simp; try with_reducible rfl)
  simp only [Act.put, List.setIfInBounds_toArray, List.set_cons_zero, List.set_cons_succ]
  refine wpAnyH_ready (rs := [1]) (by kernel_rfl) (by simp) ?_
  refine AllReadyH.cons rfl (fun K hK => ?_) AllReadyH.nil
  (go_simp; (refine (HP.out _ (ER.out _ hB0)).mono ?_); rintro e y1 ⟨B1, d1, rfl, hO1, b1⟩; have hV1 := hB0.trans (b1.mono hB0.size); clear hO1)
  refine hK.out _ _ (ES.out _ hV1) (fun hHeld2 => ?_)
  clear hK K hHeld
  have hHeld := hHeld2
  clear hHeld2
  first | simp only [Act.put, List.setIfInBounds_toArray, List.set_cons_zero, List.set_cons_succ] | skip
  refine wpAnyH_take (i := 2) (oi := ?oi442) (v := ?val442) ?hi442 ?hs442 ?hf442 ?hr442 ?hQ442 ?hy442 ?hS442 ?hrest442
  case hi442 => (simp only [List.getElem?_toArray, List.getElem?_cons_succ, List.getElem?_cons_zero] <;> exact rfl)
  case hs442 => kernel_rfl
  case hf442 => kernel_rfl
  case hr442 => kernel_rfl
  case hQ442 => exact fun _ _ _ h => h
  case hS442 => assumption
  case hy442 => (refine Or.inl ⟨by rfl, ?_⟩; intro w hSw; (try dsimp only at hSw); (first | obtain ⟨z0, z1, z2, z3, z4, z5⟩ := hSw | obtain ⟨z0, z1, z2, z3⟩ := hSw | obtain ⟨z0, z1, z2⟩ := hSw | obtain ⟨z0, z1⟩ := hSw | skip); go_simp; try with_reducible rfl)
  simp only [Act.put, List.setIfInBounds_toArray, List.set_cons_zero, List.set_cons_succ]
  refine wpAnyH_ready (rs := [4]) (by kernel_rfl) (by simp) ?_
  refine AllReadyH.cons rfl (fun K hK => ?_) AllReadyH.nil
  (go_simp; (refine (HO.out _ (ER.out _ hV1)).mono ?_); rintro e y2 ⟨B2, d2, rfl, hO2, b2⟩; have hV2 := hV1.trans (b2.mono hV1.size); clear hO2)
  refine hK.out _ _ (ES.out _ hV2) (fun hHeld2 => ?_)
  clear hK K hHeld
  have hHeld := hHeld2
  clear hHeld2
  first | simp only [Act.put, List.setIfInBounds_toArray, List.set_cons_zero, List.set_cons_succ] | skip
  refine wpAnyH_take (i := 5) (oi := ?oi459) (v := ?val459) ?hi459 ?hs459 ?hf459 ?hr459 ?hQ459 ?hy459 ?hS459 ?hrest459
  case hi459 => (simp only [List.getElem?_toArray, List.getElem?_cons_succ, List.getElem?_cons_zero] <;> exact rfl)
  case hs459 => kernel_rfl
  case hf459 => kernel_rfl
  case hr459 => kernel_rfl
  case hQ459 => exact fun _ _ _ h => h
  case hS459 => assumption
  case hy459 => (refine Or.inl ⟨by rfl, ?_⟩; intro w hSw; (try dsimp only at hSw); (first | obtain ⟨z0, z1, z2, z3, z4, z5⟩ := hSw | obtain ⟨z0, z1, z2, z3⟩ := hSw | obtain ⟨z0, z1, z2⟩ := hSw | obtain ⟨z0, z1⟩ := hSw | skip); go_simp; try with_reducible rfl)
  simp only [Act.put, List.setIfInBounds_toArray, List.set_cons_zero, List.set_cons_succ]
  refine wpAnyH_take (i := 6) (oi := ?oi468) (v := ?val468) ?hi468 ?hs468 ?hf468 ?hr468 ?hQ468 ?hy468 ?hS468 ?hrest468
  case hi468 => (simp only [List.getElem?_toArray, List.getElem?_cons_succ, List.getElem?_cons_zero] <;> exact rfl)
  case hs468 => kernel_rfl
  case hf468 => kernel_rfl
  case hr468 => kernel_rfl
  case hQ468 => exact fun _ _ _ h => h
  case hS468 => assumption
  case hy468 => (refine Or.inl ⟨by rfl, ?_⟩; intro w hSw; (try dsimp only at hSw); (first | obtain ⟨z0, z1, z2, z3, z4, z5⟩ := hSw | obtain ⟨z0, z1, z2, z3⟩ := hSw | obtain ⟨z0, z1, z2⟩ := hSw | obtain ⟨z0, z1⟩ := hSw | skip); go_simp; try with_reducible rfl)
  simp only [Act.put, List.setIfInBounds_toArray, List.set_cons_zero, List.set_cons_succ]
  refine wpAnyH_take (i := 7) (oi := ?oi477) (v := ?val477) ?hi477 ?hs477 ?hf477 ?hr477 ?hQ477 ?hy477 ?hS477 ?hrest477
  case hi477 => (simp only [List.getElem?_toArray, List.getElem?_cons_succ, List.getElem?_cons_zero] <;> exact rfl)
  case hs477 => kernel_rfl
  case hf477 => kernel_rfl
  case hr477 => kernel_rfl
  case hQ477 => exact fun _ _ _ h => h
  case hS477 => assumption
  case hy477 => (refine Or.inl ⟨by rfl, ?_⟩; intro w hSw; (try dsimp only at hSw); (first | obtain ⟨z0, z1, z2, z3, z4, z5⟩ := hSw | obtain ⟨z0, z1, z2, z3⟩ := hSw | obtain ⟨z0, z1, z2⟩ := hSw | obtain ⟨z0, z1⟩ := hSw | skip); go_simp; try with_reducible rfl)
  simp only [Act.put, List.setIfInBounds_toArray, List.set_cons_zero, List.set_cons_succ]
  refine wpAnyH_done (by kernel_rfl) ?_ _
  have hW9 := HW0d.out.trans (hV2.mono HW0d.out.size)
  clear hHeld hV1 hV2 b1 b2
  go_wp2_with fail
  go_ret2
  exact ⟨rfl, hW9⟩

set_option maxRecDepth 100000 in
set_option maxHeartbeats 2000000 in
theorem implCountPairs_any (l : Int) (A : Option Addr) (n c : Nat) (rs : List RuleT) (w : World) (hr : Rd w A (cellsRule rs)) (hn : n = rs.length) (hb : n ≤ 1048576) (hz : ∀ x ∈ rs, x.1.size ≤ 1048576 ∧ x.2.size ≤ 1048576) :
    Calls Try.prog 37 #[.agg #[.int .i64 l, .slice A n c]] w (Kept w (.tuple #[.int .i64 (((prAll l rs).length : Nat) : Int), .int .i64 (((opAll l rs).length : Nat) : Int)])) := by
  have hW0 : Below w.heap.size w (w.alloc (.cells #[.int .i64 l, .slice A n c] 29)) := (Below.refl _ _).alloc (Nat.le_refl _) _
  have hS0 := Bk.new w 29 #[.int .i64 l, .slice A n c]
  have hpl := prAll_len l rs
  have hol := opAll_len l rs
  have hP := fun (W : World) (hw : Rd W A (cellsRule rs)) => implPairsOf_any l A n c rs W hw hn hb hz
  have hO := fun (W : World) (hw : Rd W A (cellsRule rs)) => implOpenPairs_any l A n c rs W hw hn hb hz
  obtain ⟨z, hzz⟩ : ∃ m, m = (prAll l rs).length := ⟨_, rfl⟩
  obtain ⟨m, hm⟩ : ∃ m, m = (opAll l rs).length := ⟨_, rfl⟩
  rw [← hzz] at hpl hP
  rw [← hm] at hol hO
  rw [← hzz, ← hm]
  have eS : ∀ W, Below (w.alloc (.cells #[.int .i64 l, .slice A n c] 29)).drew.heap.size (w.alloc (.cells #[.int .i64 l, .slice A n c] 29)).drew W → W.cell? ⟨w.heap.size, 0, none⟩ = some (.int .i64 l) ∧ W.cell? ⟨w.heap.size, 1, none⟩ = some (.slice A n c) := fun W hb => by
    have h := hS0.drew.below hb hS0.drew.lt
    exact ⟨by rw [h.cell]; rfl, by rw [h.cell]; rfl⟩
  have eR : ∀ W, Below (w.alloc (.cells #[.int .i64 l, .slice A n c] 29)).drew.heap.size (w.alloc (.cells #[.int .i64 l, .slice A n c] 29)).drew W → Rd W A (cellsRule rs) := fun W hb => hr.keep (hW0.drew.trans (hb.mono hW0.drew.size))
  have hB0 : Below (w.alloc (.cells #[.int .i64 l, .slice A n c] 29)).drew.heap.size (w.alloc (.cells #[.int .i64 l, .slice A n c] 29)).drew (w.alloc (.cells #[.int .i64 l, .slice A n c] 29)).drew := Below.refl _ _
  have hW0d := hW0.drew
  clear hS0
  have Hr := Lib.hid hr
  clear hr
  have Hn := Lib.hid hn
  clear hn
  have Hz := Lib.hid hz
  clear hz
  have HP := Lib.hid hP
  clear hP
  have HO := Lib.hid hO
  clear hO
  have Hzz := Lib.hid hzz
  clear hzz
  have Hm := Lib.hid hm
  clear hm
  have ES := Lib.hid eS
  clear eS
  have ER := Lib.hid eR
  clear eR
  have HW0 := Lib.hid hW0
  clear hW0
  have HW0d := Lib.hid hW0d
  clear hW0d
  go_enter Try.func37, Try.ntmps37
  go_wp2_with fail
  refine wp_region_held_drew (S := (fun W => W.cell? ⟨w.heap.size, 0, none⟩ = some (.int .i64 l) ∧ W.cell? ⟨w.heap.size, 1, none⟩ = some (.slice A n c))) (by kernel_rfl) (ES.out _ hB0) (fun hHeld => ?_)
  refine wpAnyH_take (i := 0) (oi := ?oi540) (v := ?val540) ?hi540 ?hs540 ?hf540 ?hr540 ?hQ540 ?hy540 ?hS540 ?hrest540
  case hi540 => (simp only [List.getElem?_toArray, List.getElem?_cons_succ, List.getElem?_cons_zero] <;> exact rfl)
  case hs540 => kernel_rfl
  case hf540 => kernel_rfl
  case hr540 => kernel_rfl
  case hQ540 => exact fun _ _ _ h => h
  case hS540 => assumption
  case hy540 => (refine Or.inl ⟨by rfl, ?_⟩; intro w hSw; (try dsimp only at hSw); (first | obtain ⟨z0, z1, z2, z3, z4, z5⟩ := hSw | obtain ⟨z0, z1, z2, z3⟩ := hSw | obtain ⟨z0, z1, z2⟩ := hSw | obtain ⟨z0, z1⟩ := hSw | skip); go_simp; try with_reducible rfl)
  simp only [Act.put, List.setIfInBounds_toArray, List.set_cons_zero, List.set_cons_succ]
  refine wpAnyH_take (i := 3) (oi := ?oi549) (v := ?val549) ?hi549 ?hs549 ?hf549 ?hr549 ?hQ549 ?hy549 ?hS549 ?hrest549
  case hi549 => (simp only [List.getElem?_toArray, List.getElem?_cons_succ, List.getElem?_cons_zero] <;> exact rfl)
  case hs549 => kernel_rfl
  case hf549 => kernel_rfl
  case hr549 => kernel_rfl
  case hQ549 => exact fun _ _ _ h => h
  case hS549 => assumption
  case hy549 => (refine Or.inl ⟨by rfl, ?_⟩; intro w hSw; (try dsimp only at hSw); (first | obtain ⟨z0, z1, z2, z3, z4, z5⟩ := hSw | obtain ⟨z0, z1, z2, z3⟩ := hSw | obtain ⟨z0, z1, z2⟩ := hSw | obtain ⟨z0, z1⟩ := hSw | skip); go_simp; try with_reducible rfl)
  simp only [Act.put, List.setIfInBounds_toArray, List.set_cons_zero, List.set_cons_succ]
  refine wpAnyH_ready (rs := [1]) (by kernel_rfl) (by simp) ?_
  refine AllReadyH.cons rfl (fun K hK => ?_) AllReadyH.nil
  (go_simp; (refine (HP.out _ (ER.out _ hB0)).mono ?_); rintro e y1 ⟨B1, d1, rfl, hO1, b1⟩; have hV1 := hB0.trans (b1.mono hB0.size); clear hO1)
  refine hK.out _ _ (ES.out _ hV1) (fun hHeld2 => ?_)
  clear hK K hHeld
  have hHeld := hHeld2
  clear hHeld2
  first | simp only [Act.put, List.setIfInBounds_toArray, List.set_cons_zero, List.set_cons_succ] | skip
  refine wpAnyH_take (i := 2) (oi := ?oi566) (v := ?val566) ?hi566 ?hs566 ?hf566 ?hr566 ?hQ566 ?hy566 ?hS566 ?hrest566
  case hi566 => (simp only [List.getElem?_toArray, List.getElem?_cons_succ, List.getElem?_cons_zero] <;> exact rfl)
  case hs566 => kernel_rfl
  case hf566 => kernel_rfl
  case hr566 => kernel_rfl
  case hQ566 => exact fun _ _ _ h => h
  case hS566 => assumption
  case hy566 => (refine Or.inl ⟨by rfl, ?_⟩; intro w hSw; (try dsimp only at hSw); (first | obtain ⟨z0, z1, z2, z3, z4, z5⟩ := hSw | obtain ⟨z0, z1, z2, z3⟩ := hSw | obtain ⟨z0, z1, z2⟩ := hSw | obtain ⟨z0, z1⟩ := hSw | skip); go_simp; try with_reducible rfl)
  simp only [Act.put, List.setIfInBounds_toArray, List.set_cons_zero, List.set_cons_succ]
  refine wpAnyH_ready (rs := [4]) (by kernel_rfl) (by simp) ?_
  refine AllReadyH.cons rfl (fun K hK => ?_) AllReadyH.nil
  (go_simp; (refine (HO.out _ (ER.out _ hV1)).mono ?_); rintro e y2 ⟨B2, d2, rfl, hO2, b2⟩; have hV2 := hV1.trans (b2.mono hV1.size); clear hO2)
  refine hK.out _ _ (ES.out _ hV2) (fun hHeld2 => ?_)
  clear hK K hHeld
  have hHeld := hHeld2
  clear hHeld2
  first | simp only [Act.put, List.setIfInBounds_toArray, List.set_cons_zero, List.set_cons_succ] | skip
  refine wpAnyH_take (i := 5) (oi := ?oi583) (v := ?val583) ?hi583 ?hs583 ?hf583 ?hr583 ?hQ583 ?hy583 ?hS583 ?hrest583
  case hi583 => (simp only [List.getElem?_toArray, List.getElem?_cons_succ, List.getElem?_cons_zero] <;> exact rfl)
  case hs583 => kernel_rfl
  case hf583 => kernel_rfl
  case hr583 => kernel_rfl
  case hQ583 => exact fun _ _ _ h => h
  case hS583 => assumption
  case hy583 => (refine Or.inl ⟨by rfl, ?_⟩; intro w hSw; (try dsimp only at hSw); (first | obtain ⟨z0, z1, z2, z3, z4, z5⟩ := hSw | obtain ⟨z0, z1, z2, z3⟩ := hSw | obtain ⟨z0, z1, z2⟩ := hSw | obtain ⟨z0, z1⟩ := hSw | skip); go_simp; try with_reducible rfl)
  simp only [Act.put, List.setIfInBounds_toArray, List.set_cons_zero, List.set_cons_succ]
  refine wpAnyH_take (i := 6) (oi := ?oi592) (v := ?val592) ?hi592 ?hs592 ?hf592 ?hr592 ?hQ592 ?hy592 ?hS592 ?hrest592
  case hi592 => (simp only [List.getElem?_toArray, List.getElem?_cons_succ, List.getElem?_cons_zero] <;> exact rfl)
  case hs592 => kernel_rfl
  case hf592 => kernel_rfl
  case hr592 => kernel_rfl
  case hQ592 => exact fun _ _ _ h => h
  case hS592 => assumption
  case hy592 => (refine Or.inl ⟨by rfl, ?_⟩; intro w hSw; (try dsimp only at hSw); (first | obtain ⟨z0, z1, z2, z3, z4, z5⟩ := hSw | obtain ⟨z0, z1, z2, z3⟩ := hSw | obtain ⟨z0, z1, z2⟩ := hSw | obtain ⟨z0, z1⟩ := hSw | skip); go_simp; try with_reducible rfl)
  simp only [Act.put, List.setIfInBounds_toArray, List.set_cons_zero, List.set_cons_succ]
  refine wpAnyH_take (i := 7) (oi := ?oi601) (v := ?val601) ?hi601 ?hs601 ?hf601 ?hr601 ?hQ601 ?hy601 ?hS601 ?hrest601
  case hi601 => (simp only [List.getElem?_toArray, List.getElem?_cons_succ, List.getElem?_cons_zero] <;> exact rfl)
  case hs601 => kernel_rfl
  case hf601 => kernel_rfl
  case hr601 => kernel_rfl
  case hQ601 => exact fun _ _ _ h => h
  case hS601 => assumption
  case hy601 => (refine Or.inl ⟨by rfl, ?_⟩; intro w hSw; (try dsimp only at hSw); (first | obtain ⟨z0, z1, z2, z3, z4, z5⟩ := hSw | obtain ⟨z0, z1, z2, z3⟩ := hSw | obtain ⟨z0, z1, z2⟩ := hSw | obtain ⟨z0, z1⟩ := hSw | skip); go_simp; try with_reducible rfl)
  simp only [Act.put, List.setIfInBounds_toArray, List.set_cons_zero, List.set_cons_succ]
  refine wpAnyH_done (by kernel_rfl) ?_ _
  have hW9 := HW0d.out.trans (hV2.mono HW0d.out.size)
  clear hHeld hV1 hV2 b1 b2
  go_wp2_with fail
  go_ret2
  exact ⟨rfl, hW9⟩

end Go.Proofs.Ytnlagiopmkjmlaa
