/- Walks over the program's FirstStep, LastStep and RunSteps. Conditions: rules that are in order for the first two, sizes. -/
import Derived.Test.YtidmbeeadbedaaaMg15
import Derived.Test.YtidmbeeadbedaaaJoin
namespace Go.Proofs.Ytidmbeeadbedaaa
open Go.RowKit Go.Shelf

set_option maxRecDepth 100000 in
set_option maxHeartbeats 1000000 in
theorem implFirstStep_any (l : Int) (A : Option Addr) (n c : Nat) (rs : List RuleT) (s : ByteArray) (w : World) (hr : Rd w A (cellsRule rs)) (hn : n = rs.length) (hb : n ≤ 1048576) (hz : ∀ x ∈ rs, x.1.size ≤ 1048576 ∧ x.2.size ≤ 1048576) (hs : s.size ≤ 1048576) (hro : rulesOk l rs = true) :
    Calls Try.prog 35 #[.agg #[.int .i64 l, .slice A n c], .string s] w (Kept w (.tuple #[stepV (firstS rs s), .bool (firstS rs s).isSome])) := by
  have hW0 : Below w.heap.size w ((w.alloc (.cells #[.int .i64 l, .slice A n c] 25)).alloc (.cells #[.int .i64 0, .int .i64 0] 61)) := ((Below.refl _ _).alloc (Nat.le_refl _) _).alloc (by simp) _
  have hR0 : Bk ((w.alloc (.cells #[.int .i64 l, .slice A n c] 25)).alloc (.cells #[.int .i64 0, .int .i64 0] 61)) (w.heap.size + 1) 61 #[.int .i64 0, .int .i64 0] := (Bk.new (w.alloc (.cells #[.int .i64 l, .slice A n c] 25)) 61 #[.int .i64 0, .int .i64 0]).cast (by simp)
  have hS0 : Bk ((w.alloc (.cells #[.int .i64 l, .slice A n c] 25)).alloc (.cells #[.int .i64 0, .int .i64 0] 61)) w.heap.size 25 #[.int .i64 l, .slice A n c] := (Bk.new w 25 #[.int .i64 l, .slice A n c]).alloc _
  have Hr := Lib.hid hr
  clear hr
  have Hn := Lib.hid hn
  clear hn
  have Hz := Lib.hid hz
  clear hz
  have Hro := Lib.hid hro
  clear hro
  have HR0 := Lib.hid hR0
  clear hR0
  go_enter Try.func35, Try.ntmps35
  go_wp2_with fail
  with_reducible refine (implRulesOk_any l A n c rs _ (Hr.out.keep hW0) Hn.out hb Hz.out).mono ?_
  rintro e w1 ⟨rfl, b1⟩
  have hW1 := hW0.trans (b1.mono hW0.size)
  have hS1 := hS0.below b1 hS0.lt
  have hR1 := HR0.out.below b1 HR0.out.lt
  have s0_1 : w1.cell? ⟨w.heap.size, 0, none⟩ = some (.int .i64 l) := by rw [hS1.cell]; rfl
  have s1_1 : w1.cell? ⟨w.heap.size, 1, none⟩ = some (.slice A n c) := by rw [hS1.cell]; rfl
  have sl_1 := hS1.lt
  clear b1
  rw [Hro.out]
  go_wp2_with fail
  with_reducible refine (implFirst_any l A n c rs s _ (Hr.out.keep hW1) Hn.out hb Hz.out hs).mono ?_
  rintro e w2 ⟨rfl, b2⟩
  have hW2 := hW1.trans (b2.mono hW1.size)
  have hS2 := hS1.below b2 hS1.lt
  have hR2 := hR1.below b2 hR1.lt
  have s0_2 : w2.cell? ⟨w.heap.size, 0, none⟩ = some (.int .i64 l) := by rw [hS2.cell]; rfl
  have s1_2 : w2.cell? ⟨w.heap.size, 1, none⟩ = some (.slice A n c) := by rw [hS2.cell]; rfl
  have sl_2 := hS2.lt
  clear b2
  rw [stepV_eq]
  obtain ⟨x0, h0⟩ : ∃ x0, x0 = stepX (firstS rs s) := ⟨_, rfl⟩
  obtain ⟨x1, h1⟩ : ∃ x1, x1 = stepY (firstS rs s) := ⟨_, rfl⟩
  obtain ⟨k, hk⟩ : ∃ k, k = (firstS rs s).isSome := ⟨_, rfl⟩
  rw [← h0, ← h1, ← hk]
  have r0 : w2.cell? ⟨w.heap.size + 1, 0, none⟩ = some (.int .i64 0) := by rw [hR2.cell]; rfl
  have r1 : w2.cell? ⟨w.heap.size + 1, 1, none⟩ = some (.int .i64 0) := by rw [hR2.cell]; rfl
  have f0 := hR2.free 0
  have f1 := hR2.free 1
  have rl := hR2.lt
  have H0 := Lib.hid h0
  clear h0
  have H1 := Lib.hid h1
  clear h1
  have Hk := Lib.hid hk
  clear hk
  have HR2 := Lib.hid hR2
  clear hR2
  go_wp2_with fail
  have hBn := (HR2.out.put 0 (.int .i64 x0)).put 1 (.int .i64 x1)
  have q0 := hBn.cell 0
  have q1 := hBn.cell 1
  refine bodyPost_ret (v := .tuple #[.agg #[.int .i64 x0, .int .i64 x1], .bool k]) (by simp [results, Try.results35, go_sem, q0, q1]) rfl ?_
  exact ⟨by rw [stepV_eq, H0.out, H1.out, Hk.out], (hW2.setCell (by dsimp only; omega) _).setCell (by dsimp only; omega) _⟩

set_option maxRecDepth 100000 in
set_option maxHeartbeats 1000000 in
theorem implLastStep_any (l : Int) (A : Option Addr) (n c : Nat) (rs : List RuleT) (s : ByteArray) (w : World) (hr : Rd w A (cellsRule rs)) (hn : n = rs.length) (hb : n ≤ 1048576) (hz : ∀ x ∈ rs, x.1.size ≤ 1048576 ∧ x.2.size ≤ 1048576) (hs : s.size ≤ 1048576) (hro : rulesOk l rs = true) :
    Calls Try.prog 36 #[.agg #[.int .i64 l, .slice A n c], .string s] w (Kept w (.tuple #[stepV (lastS rs s), .bool (lastS rs s).isSome])) := by
  have hW0 : Below w.heap.size w ((w.alloc (.cells #[.int .i64 l, .slice A n c] 25)).alloc (.cells #[.int .i64 0, .int .i64 0] 61)) := ((Below.refl _ _).alloc (Nat.le_refl _) _).alloc (by simp) _
  have hR0 : Bk ((w.alloc (.cells #[.int .i64 l, .slice A n c] 25)).alloc (.cells #[.int .i64 0, .int .i64 0] 61)) (w.heap.size + 1) 61 #[.int .i64 0, .int .i64 0] := (Bk.new (w.alloc (.cells #[.int .i64 l, .slice A n c] 25)) 61 #[.int .i64 0, .int .i64 0]).cast (by simp)
  have hS0 : Bk ((w.alloc (.cells #[.int .i64 l, .slice A n c] 25)).alloc (.cells #[.int .i64 0, .int .i64 0] 61)) w.heap.size 25 #[.int .i64 l, .slice A n c] := (Bk.new w 25 #[.int .i64 l, .slice A n c]).alloc _
  have Hr := Lib.hid hr
  clear hr
  have Hn := Lib.hid hn
  clear hn
  have Hz := Lib.hid hz
  clear hz
  have Hro := Lib.hid hro
  clear hro
  have HR0 := Lib.hid hR0
  clear hR0
  go_enter Try.func36, Try.ntmps36
  go_wp2_with fail
  with_reducible refine (implRulesOk_any l A n c rs _ (Hr.out.keep hW0) Hn.out hb Hz.out).mono ?_
  rintro e w1 ⟨rfl, b1⟩
  have hW1 := hW0.trans (b1.mono hW0.size)
  have hS1 := hS0.below b1 hS0.lt
  have hR1 := HR0.out.below b1 HR0.out.lt
  have s0_1 : w1.cell? ⟨w.heap.size, 0, none⟩ = some (.int .i64 l) := by rw [hS1.cell]; rfl
  have s1_1 : w1.cell? ⟨w.heap.size, 1, none⟩ = some (.slice A n c) := by rw [hS1.cell]; rfl
  have sl_1 := hS1.lt
  clear b1
  rw [Hro.out]
  go_wp2_with fail
  with_reducible refine (implLast_any l A n c rs s _ (Hr.out.keep hW1) Hn.out hb Hz.out hs).mono ?_
  rintro e w2 ⟨rfl, b2⟩
  have hW2 := hW1.trans (b2.mono hW1.size)
  have hS2 := hS1.below b2 hS1.lt
  have hR2 := hR1.below b2 hR1.lt
  have s0_2 : w2.cell? ⟨w.heap.size, 0, none⟩ = some (.int .i64 l) := by rw [hS2.cell]; rfl
  have s1_2 : w2.cell? ⟨w.heap.size, 1, none⟩ = some (.slice A n c) := by rw [hS2.cell]; rfl
  have sl_2 := hS2.lt
  clear b2
  rw [stepV_eq]
  obtain ⟨x0, h0⟩ : ∃ x0, x0 = stepX (lastS rs s) := ⟨_, rfl⟩
  obtain ⟨x1, h1⟩ : ∃ x1, x1 = stepY (lastS rs s) := ⟨_, rfl⟩
  obtain ⟨k, hk⟩ : ∃ k, k = (lastS rs s).isSome := ⟨_, rfl⟩
  rw [← h0, ← h1, ← hk]
  have r0 : w2.cell? ⟨w.heap.size + 1, 0, none⟩ = some (.int .i64 0) := by rw [hR2.cell]; rfl
  have r1 : w2.cell? ⟨w.heap.size + 1, 1, none⟩ = some (.int .i64 0) := by rw [hR2.cell]; rfl
  have f0 := hR2.free 0
  have f1 := hR2.free 1
  have rl := hR2.lt
  have H0 := Lib.hid h0
  clear h0
  have H1 := Lib.hid h1
  clear h1
  have Hk := Lib.hid hk
  clear hk
  have HR2 := Lib.hid hR2
  clear hR2
  go_wp2_with fail
  have hBn := (HR2.out.put 0 (.int .i64 x0)).put 1 (.int .i64 x1)
  have q0 := hBn.cell 0
  have q1 := hBn.cell 1
  refine bodyPost_ret (v := .tuple #[.agg #[.int .i64 x0, .int .i64 x1], .bool k]) (by simp [results, Try.results36, go_sem, q0, q1]) rfl ?_
  exact ⟨by rw [stepV_eq, H0.out, H1.out, Hk.out], (hW2.setCell (by dsimp only; omega) _).setCell (by dsimp only; omega) _⟩


theorem rst_more {l : Int} {rs : List RuleT} {s : ByteArray} {xs : List StepT} {j : Nat} (h : j < xs.length) : rstGo l rs s (xs.drop j) = if asOk l rs s xs[j] then rstGo l rs (asS l rs s xs[j]) (xs.drop (j + 1)) else (⟨#[]⟩, false) := by
  rw [List.drop_eq_getElem_cons h, rstGo]

set_option maxRecDepth 100000 in
set_option maxHeartbeats 2000000 in
theorem implRunSteps_any (l : Int) (A : Option Addr) (n c : Nat) (rs : List RuleT) (s : ByteArray) (B : Option Addr) (m d : Nat) (ls : List StepT) (w : World) (hr : Rd w A (cellsRule rs)) (hn : n = rs.length) (hb : n ≤ 1048576) (hz : ∀ x ∈ rs, x.1.size ≤ 1048576 ∧ x.2.size ≤ 1048576) (hs : s.size ≤ 1048576) (hy : Rd w B (cellsStep ls)) (hm : m = ls.length) (hbm : m ≤ 8589934592) :
    Calls Try.prog 34 #[.agg #[.int .i64 l, .slice A n c], .string s, .slice B m d] w (Kept w (.tuple #[.string (rstS l rs s ls).1, .bool (rstS l rs s ls).2])) := by
  have hW0 : Below w.heap.size w (w.alloc (.cells #[.int .i64 l, .slice A n c] 25)) := (Below.refl _ _).alloc (Nat.le_refl _) _
  have hS0 := Bk.new w 25 #[.int .i64 l, .slice A n c]
  obtain ⟨⟨ra, rb⟩, hR⟩ : ∃ z, z = rstS l rs s ls := ⟨_, rfl⟩
  rw [← hR]
  dsimp only
  by_cases h1000 : m ≤ 1000
  rotate_left
  · have e : (ra, rb) = (⟨#[]⟩, false) := by rw [hR, rstS, if_pos (by omega)]
    obtain ⟨rfl, rfl⟩ := Prod.mk.inj e
    clear hR e
    have Hm := Lib.hid hm
    clear hm
    have Hn := Lib.hid hn
    clear hn
    go_enter Try.func34, Try.ntmps34
    go_wp2_with fail
    go_ret2
    exact ⟨rfl, hW0⟩
  have hE : (ra, rb) = rstGo l rs s (ls.drop 0) := by rw [hR, rstS, if_neg (by omega)]; rfl
  clear hR
  have Hr := Lib.hid hr
  clear hr
  have Hn := Lib.hid hn
  clear hn
  have Hz := Lib.hid hz
  clear hz
  have Hy := Lib.hid hy
  clear hy
  have Hm := Lib.hid hm
  clear hm
  have HE := Lib.hid hE
  clear hE
  have HS0 := Lib.hid hS0
  clear hS0
  have HW0 := Lib.hid hW0
  clear hW0
  go_enter Try.func34, Try.ntmps34
  go_wp2_with fail
  go_loopw [1, 17] (fun v i wr => ∃ (j : Nat) (cur : ByteArray), v = .string cur ∧ i = .int .i64 j ∧ j ≤ m ∧ cur.size ≤ 1048576 ∧ Hid ((ra, rb) = rstGo l rs cur (ls.drop j)) ∧ Bk wr w.heap.size 25 #[.int .i64 l, .slice A n c] ∧ Below w.heap.size w wr) (fun _ i _ => m - (intOf i).toNat)
  case atStart => exact ⟨0, s, rfl, rfl, Nat.zero_le _, hs, HE.out, HS0.out, HW0.out⟩
  case round =>
    clear HS0 HW0 HE
    obtain ⟨j, cur, rfl, rfl, hj, hcs, HC, hS0, hW0⟩ := hrel
    have s0_0 : wr.cell? ⟨w.heap.size, 0, none⟩ = some (.int .i64 l) := by rw [hS0.cell]; rfl
    have s1_0 : wr.cell? ⟨w.heap.size, 1, none⟩ = some (.slice A n c) := by rw [hS0.cell]; rfl
    have sl_0 := hS0.lt
    by_cases hlt : j < m
    · have hlt2 : j < ls.length := by rw [← Hm.out]; exact hlt
      obtain ⟨b, o, rfl, hbl, p0, p1⟩ := rd_Step (Hy.out.keep hW0) hlt2
      obtain ⟨⟨x0, x1⟩, hx⟩ : ∃ x, x = ls[j] := ⟨_, rfl⟩
      rw [← hx] at p0 p1
      dsimp only at p0 p1
      have hnx : (ra, rb) = if asOk l rs cur (x0, x1) then rstGo l rs (asS l rs cur (x0, x1)) (ls.drop (j + 1)) else (⟨#[]⟩, false) := by rw [HC.out, rst_more hlt2, ← hx]
      obtain ⟨nx, hnx2⟩ : ∃ nx, nx = asS l rs cur (x0, x1) := ⟨_, rfl⟩
      obtain ⟨no, hno⟩ : ∃ no, no = asOk l rs cur (x0, x1) := ⟨_, rfl⟩
      have hsz : no = true → nx.size ≤ 1048576 := fun h => by rw [hnx2]; exact asS_size (by rw [← hno]; exact h)
      rw [← hnx2, ← hno] at hnx
      have hWa := hW0.alloc hW0.size (.cells #[.int .i64 x0, .int .i64 x1] 61)
      have hSa := hS0.alloc (.cells #[.int .i64 x0, .int .i64 x1] 61)
      clear HC
      have Hx := Lib.hid hx
      clear hx
      have Hnx := Lib.hid hnx
      clear hnx
      have Hnx2 := Lib.hid hnx2
      clear hnx2
      have Hno := Lib.hid hno
      clear hno
      have HWa := Lib.hid hWa
      clear hWa
      have HSa := Lib.hid hSa
      clear hSa
      have Hsz := Lib.hid hsz
      clear hsz
      go_wp2_with fail
      with_reducible refine (implApplyStep_any l A n c rs cur x0 x1 _ (Hr.out.keep HWa.out) Hn.out hb Hz.out hcs).mono ?_
      rintro e w3 ⟨rfl, b3⟩
      rw [← Hnx2.out, ← Hno.out]
      have hW3 := HWa.out.trans (b3.mono HWa.out.size)
      have hS3 := HSa.out.below b3 HSa.out.lt
      have sl := hS3.lt
      clear b3 HWa HSa s0_0 s1_0 sl_0 hS0 hW0
      cases no
      · have e := Hnx.out
        rw [if_neg (by simp)] at e
        obtain ⟨rfl, rfl⟩ := Prod.mk.inj e
        clear e
        go_wp2_with fail
        go_ret2
        exact ⟨rfl, hW3⟩
      · have hz2 := Hsz.out rfl
        have hC2 : (ra, rb) = rstGo l rs nx (ls.drop (j + 1)) := by rw [Hnx.out, if_pos rfl]
        have HC2 := Lib.hid hC2
        clear hC2
        go_wp2_with fail
        go_roundw
        case rel => exact ⟨j + 1, nx, rfl, by go_num, by omega, hz2, HC2.out, hS3, hW3⟩
        case measure => simp [intOf] <;> omega
    · have e := HC.out
      rw [List.drop_of_length_le (by rw [← Hm.out]; omega), rstGo] at e
      obtain ⟨rfl, rfl⟩ := Prod.mk.inj e
      clear e HC
      go_wp2_with fail
      go_ret2
      exact ⟨rfl, hW0⟩

end Go.Proofs.Ytidmbeeadbedaaa
