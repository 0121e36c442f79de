/- Walks over the laws' helpers for impl.Rule: eqRule, eqRuleS, markRuleS, heldRuleS and the readings of slices of them. -/


import Derived.Test.YtgceabbeeobmgaaMark
import Derived.Test.YtgceabbeeobmgaaApp
namespace Go.Proofs.Ytgceabbeeobmgaa

open Go.RowKit Go.Shelf

abbrev RuleT : Type := ByteArray × ByteArray
def encRule (x : RuleT) : List Value := [.string x.1, .string x.2]
def cellsRule (xs : List RuleT) : List Value := xs.flatMap encRule
/-- The cells of element k. -/
theorem rd_Rule {w : World} {A : Option Addr} {xs : List RuleT} (h : Rd w A (cellsRule xs)) {k : Nat} (hk : k < xs.length) : ∃ b off, A = some ⟨b, off, none⟩ ∧ b < w.heap.size ∧
    w.cell? ⟨b, off + k * 2, none⟩ = some (.string xs[k].1) ∧ w.cell? ⟨b, off + k * 2 + 1, none⟩ = some (.string xs[k].2) := by
  have f0 := flat_get (enc := encRule) (m := 2) (fun _ => rfl) xs k 0 hk (by omega)
  obtain ⟨b, off, e, hb, hc⟩ := h (by intro e; unfold cellsRule at e; rw [e] at f0; cases f0)
  refine ⟨b, off, e, hb, ?_, ?_⟩
  · exact hc (k * 2) _ f0
  · exact hc (k * 2 + 1) _ (flat_get (enc := encRule) (m := 2) (fun _ => rfl) xs k 1 hk (by omega))

set_option maxRecDepth 100000 in
set_option maxHeartbeats 400000 in
theorem eqRule_any (x0 : ByteArray) (x1 : ByteArray) (y0 : ByteArray) (y1 : ByteArray) (w : World) :
    Calls Try.prog 22 #[.agg #[.string x0, .string x1], .agg #[.string y0, .string y1]] w (Kept w (.bool (decide (x0 = y0) && decide (x1 = y1)))) := by
  have e0 := str_eq x0 y0
  have e1 := str_eq x1 y1
  generalize decide (x0 = y0) = b0 at *
  generalize decide (x1 = y1) = b1 at *
  go_enter Try.func22, Try.ntmps22
  cases b0
  · go_wp2
    go_ret
    exact ⟨rfl, ((Below.refl _ _).alloc (Nat.le_refl _) _).alloc (by simp) _⟩
  cases b1
  · go_wp2
    go_ret
    exact ⟨rfl, ((Below.refl _ _).alloc (Nat.le_refl _) _).alloc (by simp) _⟩
  · go_wp2
    go_ret
    exact ⟨rfl, ((Below.refl _ _).alloc (Nat.le_refl _) _).alloc (by simp) _⟩

set_option maxRecDepth 100000 in
set_option maxHeartbeats 400000 in
theorem eqRuleS_any (A B : Option Addr) (n m c d : Nat) (xs ys : List RuleT) (w : World) (hx : Rd w A (cellsRule xs)) (hy : Rd w B (cellsRule ys)) (hn : n = xs.length) (hm : m = ys.length) (hb : n ≤ 9223372036854775807) (hbm : m ≤ 9223372036854775807) :
    Calls Try.prog 13 #[.slice A n c, .slice B m d] w (Kept w (.bool (decide (xs = ys)))) := by
  subst hn hm
  by_cases hl : xs.length = ys.length
  · have hd : ((xs.length : Int) != ys.length) = false := by simp [hl]
    have h1 : xs.length ≤ ys.length := by omega
    have h2 : ys.length ≤ xs.length := by omega
    have Hl := Lib.hid hl
    clear hl
    go_enter Try.func13, Try.ntmps13
    go_wp2_with fail
    go_loopw [5] (fun i wr => ∃ (k : Nat), k ≤ xs.length ∧ i = .int .i64 k ∧ Below w.heap.size w wr ∧ Same xs ys k) (fun i _ => xs.length - (intOf i).toNat)
    case atStart => exact ⟨0, Nat.zero_le _, rfl, Below.refl _ _, fun _ h => absurd h (Nat.not_lt_zero _)⟩
    case round =>
      obtain ⟨k, hk, rfl, hW, hS⟩ := hrel
      clear hd
      by_cases hlt : k < xs.length
      · have hlt2 : k < ys.length := by omega
        obtain ⟨b1, o1, rfl, hb1, p0, p1⟩ := rd_Rule (hx.keep hW) hlt
        obtain ⟨b2, o2, rfl, hb2, q0, q1⟩ := rd_Rule (hy.keep hW) hlt2
        obtain ⟨⟨x0, x1⟩, hxv⟩ : ∃ x, x = xs[k] := ⟨_, rfl⟩
        obtain ⟨⟨y0, y1⟩, hyv⟩ : ∃ y, y = ys[k] := ⟨_, rfl⟩
        rw [← hxv] at p0 p1
        rw [← hyv] at q0 q1
        clear hx hy
        have Hxv := Lib.hid hxv
        clear hxv
        have Hyv := Lib.hid hyv
        clear hyv
        go_wp2_with fail
        go_still_tail 8, (by kernel_rfl)
        change wpList _ _ _ _ _ wr.drew
        generalize hwd : wr.drew = w2
        have hW2 : Below w.heap.size w w2 := by rw [← hwd]; exact hW.drew
        clear hwd p0 p1 q0 q1
        go_wp2_with fail
        refine (eqRule_any x0 x1 y0 y1 _).mono ?_
        rintro e w3 ⟨rfl, hW3⟩
        have hW4 := hW2.trans (hW3.mono hW2.size)
        obtain ⟨r, hrr⟩ : ∃ r', r' = (decide (x0 = y0) && decide (x1 = y1)) := ⟨_, rfl⟩
        rw [← hrr]
        have HR := Lib.hid hrr
        clear hrr
        have HD : Hid (r = decide (xs[k] = ys[k])) := by
          rw [← Hxv.out, ← Hyv.out]
          unfold Hid
          rw [HR.out]
          simp
        cases r
        · go_wp2_with fail
          go_ret
          exact ⟨ret_bool (by symm; rw [decide_eq_false_iff_not]; exact ne_at (of_decide_eq_false HD.out.symm)), hW4⟩
        · go_wp2_with fail
          go_roundw
          case rel => exact ⟨k + 1, by omega, by go_num, hW4, hS.snoc hlt hlt2 (of_decide_eq_true HD.out.symm)⟩
          case measure => simp [intOf]; omega
      · have : k = xs.length := by omega
        subst this
        go_wp2_with fail
        go_ret
        exact ⟨ret_bool (by symm; rw [decide_eq_true_iff]; exact hS.all Hl.out), hW⟩
  · have hd : ((xs.length : Int) != ys.length) = true := by simp; omega
    go_enter Try.func13, Try.ntmps13
    go_wp2
    go_ret
    exact ⟨ret_bool (by simp; intro e; exact hl (by rw [e])), Below.refl _ _⟩
theorem eqRuleS_k (A : Option Addr) (n c : Nat) (xs : List RuleT) (B : Option Addr) (m d : Nat) (ys : List RuleT) (w : World) (hx : Rd w A (cellsRule xs)) (hn : n = xs.length) (hb : n ≤ 9223372036854775807) (hy : Rd w B (cellsRule ys)) (hm : m = ys.length) (hbm : m ≤ 9223372036854775807) :
    Calls Try.prog 13 #[.slice A n c, .slice B m d] w (Kept w (.bool (decide (xs = ys)))) := eqRuleS_any A B n m c d xs ys w hx hy hn hm hb hbm

/-- The value of the mark in cell i. -/
def mkRule (k : Int) (i : Nat) : Value := if i % 2 = 0 then .string (mt (k + i)) else .string (mt (k + i))
theorem mkRule_0 (k : Int) (j : Nat) : mkRule k (j * 2) = .string (mt (k + (j : Int) * 2)) := by
  have e : k + ((j * 2 : Nat) : Int) = k + (j : Int) * 2 := by omega
  unfold mkRule
  rw [if_pos (by omega)]
  rw [e]
theorem mkRule_1 (k : Int) (j : Nat) : mkRule k (j * 2 + 1) = .string (mt (k + (j : Int) * 2 + 1)) := by
  have e : k + ((j * 2 + 1 : Nat) : Int) = k + (j : Int) * 2 + 1 := by omega
  unfold mkRule
  rw [if_neg (by omega)]
  rw [e]

set_option maxRecDepth 100000 in
set_option maxHeartbeats 1000000 in
theorem markRuleS_any (A : Option Addr) (n c : Nat) (zs : List Value) (k : Int) (base : Nat) (w : World) (ho : w.ownsRow base 34 2 (.slice A n c) n zs) (h0 : 0 ≤ k) (hk : k + n * 2 ≤ 4611686018427387904) :
    Calls Try.prog 14 #[.slice A n c, .int .i64 k] w (Marks w base 34 2 A n c k (mkRule k)) := by
  go_enter Try.func14, Try.ntmps14
  go_wp2_with fail
  go_loopw [1, 5] (fun kk i wr => ∃ (j : Nat) (ys : List Value), j ≤ n ∧ i = .int .i64 j ∧ kk = .int .i64 (k + (j : Int) * 2) ∧ wr.ownsRow base 34 2 (.slice A n c) n ys ∧ Told ys (mkRule k) (j * 2) ∧ w.grownBy wr (Value.slice A n c).ownBlock) (fun _ i _ => n - (intOf i).toNat)
  case atStart => exact ⟨0, zs, Nat.zero_le _, rfl, by simp, ho, by rw [Nat.zero_mul]; exact Told.zero _ _, grown_refl _ _⟩
  case round =>
    obtain ⟨j, ys, hj, rfl, rfl, hO, hT, hG⟩ := hrel
    by_cases hlt : j < n
    · obtain ⟨g, rfl, hbg, hlt'⟩ := own_some hO (by omega)
      have hys : n * 2 ≤ ys.length := by rw [hO.1]; exact Nat.le_refl _
      clear ho
      go_wp2_with fail
      refine (markText_any (k + (j : Int) * 2) _ (by omega) (by omega)).mono ?_
      rintro e u0 ⟨rfl, hU0⟩
      have hA0 := own_keep hO hU0 (Nat.le_refl _)
      have hG0 := grown_trans hG (grown_of_below hU0 _)
      have cl0 := own_cell hA0 (j := j * 2) (by omega)
      obtain ⟨⟨v0, hv0⟩, hf0⟩ := cl0
      have hB0 := hA0.stored (j * 2) (mkRule k (j * 2))
      rw [mkRule_0] at hB0
      have hT0 := hT.put (by omega)
      rw [mkRule_0] at hT0
      have hK0 := grown_trans hG0 hB0.2
      have hO0 := hB0.1
      clear hB0
      go_wp2_with fail
      refine (markText_any (k + (j : Int) * 2 + 1) _ (by omega) (by omega)).mono ?_
      rintro e u1 ⟨rfl, hU1⟩
      have hA1 := own_keep hO0 hU1 (Nat.le_refl _)
      have hG1 := grown_trans hK0 (grown_of_below hU1 _)
      have cl1 := own_cell hA1 (j := j * 2 + 1) (by omega)
      obtain ⟨⟨v1, hv1⟩, hf1⟩ := cl1
      have hB1 := hA1.stored (j * 2 + 1) (mkRule k (j * 2 + 1))
      rw [mkRule_1] at hB1
      have hT1 := hT0.put (by simp only [List.length_set]; omega)
      rw [mkRule_1] at hT1
      have hK1 := grown_trans hG1 hB1.2
      have hO1 := hB1.1
      clear hB1
      go_wp2_with fail
      go_roundw
      case rel => exact ⟨j + 1, _, by omega, by go_num, by go_num, hO1, (by rw [Nat.add_mul]; exact hT1), hK1⟩
      case measure => simp [intOf]; omega
    · have : j = n := by omega
      subst this
      go_wp2
      go_ret
      have e := hT.all (j := j * 2) hO.1
      exact ⟨ret_int (by simp), by rw [← e]; exact hO, hG⟩

set_option maxRecDepth 100000 in
set_option maxHeartbeats 8000000 in
theorem heldRuleS_k (A : Option Addr) (n c : Nat) (k : Int) (w : World) (hr : Rd w A ((List.range (n * 2)).map (mkRule k))) (h0 : 0 ≤ k) (hk : k + n * 2 ≤ 4611686018427387904) :
    Calls Try.prog 15 #[.slice A n c, .int .i64 k] w (Kept w (.int .i64 (k + (n * 2 : Nat)))) := by
  go_enter Try.func15, Try.ntmps15
  go_wp2_with fail
  go_loopw [1, 5] (fun kk i wr => ∃ (j : Nat), j ≤ n ∧ i = .int .i64 j ∧ kk = .int .i64 (k + (j : Int) * 2) ∧ Below w.heap.size w wr) (fun _ i _ => n - (intOf i).toNat)
  case atStart => exact ⟨0, Nat.zero_le _, rfl, by simp, Below.refl _ _⟩
  case round =>
    obtain ⟨j, hj, rfl, rfl, hW⟩ := hrel
    by_cases hlt : j < n
    · have z0 := range_map_get (mkRule k) (n * 2) (j * 2) (by omega)
      obtain ⟨b, o, rfl, hb, hc⟩ := (hr.keep hW) (by intro e; rw [e] at z0; cases z0)
      clear z0 hr
      have c0 : wr.cell? ⟨b, o + j * 2, none⟩ = some (.string (mt (k + (j : Int) * 2))) := by have h := hc (j * 2) _ (range_map_get (mkRule k) (n * 2) (j * 2) (by omega)); rw [mkRule_0] at h; exact h
      have c1 : wr.cell? ⟨b, o + j * 2 + 1, none⟩ = some (.string (mt (k + (j : Int) * 2 + 1))) := by have h := hc (j * 2 + 1) _ (range_map_get (mkRule k) (n * 2) (j * 2 + 1) (by omega)); rw [mkRule_1] at h; exact h
      clear hc
      obtain ⟨s0, hs0⟩ : ∃ s, s = mt (k + (j : Int) * 2) := ⟨_, rfl⟩
      rw [← hs0] at c0
      have hcall0 := fun W => markText_any (k + (j : Int) * 2) W (by omega) (by omega)
      rw [← hs0] at hcall0
      have Hs0 := Lib.hid hs0
      clear hs0
      have Hcall0 := Lib.hid hcall0
      clear hcall0
      have e0 : ∀ (W : World), Below wr.drew.heap.size wr.drew W → W.cell? ⟨b, o + j * 2, none⟩ = some (.string s0) ∧ Below w.heap.size w W ∧ Below wr.heap.size wr W := fun W hW1 => ⟨(hW1.cell (p := ⟨b, o + j * 2, none⟩) hb).trans c0, hW.drew.trans (hW1.mono hW.size), ((Below.refl _ wr).drew).trans hW1⟩
      have z0 := e0 _ (Below.refl _ _)
      have E0 := Lib.hid e0
      clear e0
      have Z0 := Lib.hid z0
      clear z0
      go_wp2_with fail
      go_region_held3 (fun w' => w'.cell? ⟨b, o + j * 2, none⟩ = some (.string s0) ∧ Below w.heap.size w w' ∧ Below wr.heap.size wr w') (first | exact Z0.out | exact E0.out _ hV0) ((refine (Hcall0.out _).mono ?_; rintro e u0 ⟨rfl, hV0⟩))
      have hX0 : Below wr.heap.size wr u0 := ((Below.refl _ wr).drew).trans hV0
      have hY0 := hW.trans (hX0.mono hW.size)
      have d1 := (hX0.cell (p := ⟨b, o + j * 2 + 1, none⟩) hb).trans c1
      clear c1
      have c1 := d1
      clear d1
      have hb' := Nat.lt_of_lt_of_le hb hX0.size
      clear hb
      have hb := hb'
      clear hb' c0 E0 Z0 Hcall0 hV0
      obtain ⟨s1, hs1⟩ : ∃ s, s = mt (k + (j : Int) * 2 + 1) := ⟨_, rfl⟩
      rw [← hs1] at c1
      have hcall1 := fun W => markText_any (k + (j : Int) * 2 + 1) W (by omega) (by omega)
      rw [← hs1] at hcall1
      have Hs1 := Lib.hid hs1
      clear hs1
      have Hcall1 := Lib.hid hcall1
      clear hcall1
      have e1 : ∀ (W : World), Below u0.drew.heap.size u0.drew W → W.cell? ⟨b, o + j * 2 + 1, none⟩ = some (.string s1) ∧ Below w.heap.size w W ∧ Below u0.heap.size u0 W := fun W hW1 => ⟨(hW1.cell (p := ⟨b, o + j * 2 + 1, none⟩) hb).trans c1, hY0.drew.trans (hW1.mono hY0.size), ((Below.refl _ u0).drew).trans hW1⟩
      have z1 := e1 _ (Below.refl _ _)
      have E1 := Lib.hid e1
      clear e1
      have Z1 := Lib.hid z1
      clear z1
      go_wp2_with fail
      go_region_held3 (fun w' => w'.cell? ⟨b, o + j * 2 + 1, none⟩ = some (.string s1) ∧ Below w.heap.size w w' ∧ Below u0.heap.size u0 w') (first | exact Z1.out | exact E1.out _ hV1) ((refine (Hcall1.out _).mono ?_; rintro e u1 ⟨rfl, hV1⟩))
      have hX1 : Below u0.heap.size u0 u1 := ((Below.refl _ u0).drew).trans hV1
      have hY1 := hY0.trans (hX1.mono hY0.size)
      have hb' := Nat.lt_of_lt_of_le hb hX1.size
      clear hb
      have hb := hb'
      clear hb' c1 E1 Z1 Hcall1 hV1
      go_wp2_with fail
      go_roundw
      case rel => exact ⟨j + 1, by omega, by go_num, by go_num, hY1⟩
      case measure => simp [intOf]; omega
    · have : j = n := by omega
      subst this
      go_wp2
      go_ret
      exact ⟨ret_int (by simp), hW⟩

end Go.Proofs.Ytgceabbeeobmgaa
