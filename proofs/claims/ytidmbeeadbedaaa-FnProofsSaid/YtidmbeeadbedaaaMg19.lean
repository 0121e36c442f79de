/- Merged texts: a claim has a limit of files. -/
import Derived.Test.YtidmbeeadbedaaaProP
import Derived.Test.YtidmbeeadbedaaaChain
import Derived.Test.YtidmbeeadbedaaaSeaP
import Derived.Test.YtidmbeeadbedaaaMg3
import Derived.Test.YtidmbeeadbedaaaOpn

/- Walk over the program's CountBack, and a plain word on the peak of a chain. Conditions: sizes. -/
namespace Go.Proofs.Ytidmbeeadbedaaa
open Go.RowKit Go.Shelf

theorem pk_nat {l : Int} {rs : List RuleT} {s : ByteArray} {xs : List LinkT} (h : coOk l rs s xs = true) : pkV l rs s xs = ((pkTo (coL l rs s xs) (coL l rs s xs).length : Nat) : Int) := by
  unfold pkV coL
  unfold coOk at h
  cases hc : coSt l rs s xs with
  | none => rw [hc] at h; cases h
  | some p => rfl
theorem back_take {xs : List LinkT} {j : Nat} (h : j < xs.length) : backN (xs.take (j + 1)) = backN (xs.take j) + if xs[j].2.2 = true then 1 else 0 := by
  unfold backN
  rw [List.take_succ_eq_append_getElem h, List.countP_append, List.countP_cons, List.countP_nil, Nat.zero_add]
theorem back_le (xs : List LinkT) (j : Nat) : backN (xs.take j) ≤ xs.length := by
  unfold backN
  exact Nat.le_trans (List.countP_le_length) (by rw [List.length_take]; omega)

set_option maxRecDepth 100000 in
set_option maxHeartbeats 2000000 in
theorem implCountBack_any (B : Option Addr) (m d : Nat) (ls : List LinkT) (w : World) (hy : Rd w B (cellsLink ls)) (hm : m = ls.length) (hbm : m ≤ 1048576) :
    Calls Try.prog 19 #[.slice B m d] w (Kept w (.int .i64 (backN ls : Nat))) := by
  obtain ⟨F, hF⟩ : ∃ F, F = backN ls := ⟨_, rfl⟩
  rw [← hF]
  have Hy := Lib.hid hy
  clear hy
  have Hm := Lib.hid hm
  clear hm
  have HF := Lib.hid hF
  clear hF
  go_enter Try.func19, Try.ntmps19
  go_wp2_with fail
  go_loopw [3, 8] (fun a i wr => ∃ j b : Nat, a = .int .i64 b ∧ i = .int .i64 j ∧ j ≤ m ∧ b ≤ m ∧ Hid (b = backN (ls.take j)) ∧ Below w.heap.size w wr) (fun _ i _ => m - (intOf i).toNat)
  case atStart => exact ⟨0, 0, rfl, rfl, Nat.zero_le _, Nat.zero_le _, rfl, Below.refl _ _⟩
  case round =>
    obtain ⟨j, b, rfl, rfl, hj, hbb, Hb, hW⟩ := hrel
    by_cases hlt : j < m
    · have hlt2 : j < ls.length := by rw [← Hm.out]; exact hlt
      obtain ⟨bb, o, rfl, hbl, p0, p1, p2⟩ := rd_Link (Hy.out.keep hW) hlt2
      obtain ⟨⟨x0, x1, x2⟩, hx⟩ : ∃ x, x = ls[j] := ⟨_, rfl⟩
      have hnx := back_take hlt2
      have hle := back_le ls (j + 1)
      rw [← Hm.out] at hle
      rw [← hx] at p0 p1 p2 hnx
      dsimp only at p0 p1 p2 hnx
      rw [← Hb.out] at hnx
      have hWa := hW.alloc hW.size (.cells #[.int .i64 x0, .int .i64 x1, .bool x2] 95)
      clear hx
      cases x2
      · rw [if_neg (by simp)] at hnx
        have Hnx := Lib.hid hnx
        clear hnx
        have HWa := Lib.hid hWa
        clear hWa
        go_wp2_with fail
        go_roundw
        case rel => exact ⟨j + 1, b, rfl, by go_num, by omega, by omega, Lib.hid Hnx.out.symm, HWa.out⟩
        case measure => simp [intOf] <;> omega
      · rw [if_pos rfl] at hnx
        have hb1 : b + 1 ≤ m := by omega
        have Hnx := Lib.hid hnx
        clear hnx
        have HWa := Lib.hid hWa
        clear hWa
        go_wp2_with fail
        go_roundw
        case rel => exact ⟨j + 1, b + 1, by go_num, by go_num, by omega, by omega, Lib.hid Hnx.out.symm, HWa.out⟩
        case measure => simp [intOf] <;> omega
    · have hjm : j = m := by omega
      have e : F = b := by rw [HF.out, Hb.out, List.take_of_length_le (by rw [← Hm.out]; omega)]
      subst e
      clear HF Hb hjm
      go_wp2_with fail
      go_ret
      exact ⟨rfl, hW⟩

end Go.Proofs.Ytidmbeeadbedaaa

/- What the walk of FnSearch needs besides: distances are small, a cell of a row, and the law's own comparison of two lists of words. -/
namespace Go.Proofs.Ytidmbeeadbedaaa
open Go.RowKit Go.Shelf

theorem rd_get {w : World} {b off : Nat} {xs : List Value} (h : Rd w (some ⟨b, off, none⟩) xs) {j : Nat} {u : Value} (hu : xs[j]? = some u) : w.cell? ⟨b, off + j, none⟩ = some u := by
  obtain ⟨b', off', e, -, hc⟩ := h (by intro e; rw [e] at hu; cases hu)
  have e2 : b = b' ∧ off = off' := by
    injection e with e
    injection e with e1 e2
    exact ⟨e1, e2⟩
  obtain ⟨rfl, rfl⟩ := e2
  exact hc j u hu
theorem rd_some {w : World} {A : Option Addr} {xs : List Value} (h : Rd w A xs) (hx : 0 < xs.length) : ∃ b off, A = some ⟨b, off, none⟩ := by
  obtain ⟨b, off, e, -⟩ := h (by intro e; rw [e] at hx; exact absurd hx (Nat.not_lt_zero _))
  exact ⟨b, off, e⟩
theorem strs_at {ws : List ByteArray} {j : Nat} (h : j < ws.length) : (strs ws)[j]? = some (.string ws[j]) := by simp [strs, h]

end Go.Proofs.Ytidmbeeadbedaaa

/- Walks over OpenPairs of the reference, and IsComplete and CountPairs of both. -/
namespace Go.Proofs.Ytidmbeeadbedaaa
open Go.RowKit Go.Shelf



set_option maxRecDepth 100000 in
set_option maxHeartbeats 1000000 in
theorem implIsComplete_any (l : Int) (A : Option Addr) (n c : Nat) (rs : List RuleT) (w : World) (hr : Rd w A (cellsRule rs)) (hn : n = rs.length) (hb : n ≤ 1048576) (hz : ∀ x ∈ rs, x.1.size ≤ 1048576 ∧ x.2.size ≤ 1048576) :
    Calls Try.prog 18 #[.agg #[.int .i64 l, .slice A n c]] w (Kept w (.bool (isCompl l rs))) := by
  have hW0 : Below w.heap.size w (w.alloc (.cells #[.int .i64 l, .slice A n c] 25)) := (Below.refl _ _).alloc (Nat.le_refl _) _
  have hS0 := Bk.new w 25 #[.int .i64 l, .slice A n c]
  have hol := opAll_len l rs
  have Hr := Lib.hid hr
  clear hr
  have Hn := Lib.hid hn
  clear hn
  have Hz := Lib.hid hz
  clear hz
  go_enter Try.func18, Try.ntmps18
  go_wp2_with fail
  with_reducible refine (implSystemOk_any l A n c rs _ (Hr.out.keep hW0) Hn.out hb Hz.out).mono ?_
  rintro e w1 ⟨rfl, b1⟩
  have hW1 := hW0.trans (b1.mono hW0.size)
  have hS1 := hS0.below b1 hS0.lt
  have s0_1 : w1.cell? ⟨w.heap.size, 0, none⟩ = some (.int .i64 l) := by rw [hS1.cell]; rfl
  have s1_1 : w1.cell? ⟨w.heap.size, 1, none⟩ = some (.slice A n c) := by rw [hS1.cell]; rfl
  have sl_1 := hS1.lt
  clear b1
  obtain ⟨r1, hrr⟩ : ∃ r', r' = (systemOk l rs) := ⟨_, rfl⟩
  rw [← hrr]
  have H1 := Lib.hid hrr
  clear hrr
  cases r1
  · have e1 : isCompl l rs = false := by rw [isCompl, ← H1.out]; rfl
    have E1 := Lib.hid e1
    clear e1
    go_wp2_with fail
    go_ret
    exact ⟨ret_bool (by rw [E1.out]), hW1⟩
  have e1 : isCompl l rs = decide ((opAll l rs).length = 0) := by rw [isCompl, ← H1.out]; rfl
  have hO := implOpenPairs_any l A n c rs w1 (Hr.out.keep hW1) Hn.out hb Hz.out
  obtain ⟨m, hm⟩ : ∃ m, m = (opAll l rs).length := ⟨_, rfl⟩
  rw [← hm] at e1 hO hol
  have E1 := Lib.hid e1
  clear e1
  have HO := Lib.hid hO
  clear hO
  have Hm := Lib.hid hm
  clear hm
  go_wp2_with fail
  refine HO.out.mono ?_
  rintro e w2 ⟨B, d, rfl, hO2, b2⟩
  have hW2 := hW1.trans (b2.mono hW1.size)
  clear hO2 b2
  have hq : ((m : Int) == 0) = decide (m = 0) := by
    by_cases h : m = 0
    · subst h; rfl
    · rw [decide_eq_false h]; simp; omega
  by_cases h : m = 0
  · subst h
    go_wp2_with fail
    go_ret
    exact ⟨ret_bool (by rw [E1.out]; rfl), hW2⟩
  · rw [decide_eq_false h] at hq
    have e2 : isCompl l rs = false := by rw [E1.out, decide_eq_false h]
    have h0 : ¬ (m : Int) = 0 := by omega
    clear E1
    have E2 := Lib.hid e2
    clear e2
    go_wp2_with fail
    go_ret
    exact ⟨ret_bool (by rw [E2.out]), hW2⟩



end Go.Proofs.Ytidmbeeadbedaaa
