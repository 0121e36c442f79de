/- Walks over the laws' helpers for impl.Pair: eqPair, eqPairS, markPairS, heldPairS and the readings of slices of them. -/
import Derived.Test.YtnlagiopmkjmlaaMark
import Derived.Test.YtnlagiopmkjmlaaApp
import Derived.Test.YtnlagiopmkjmlaaOpn
import Derived.Test.YtnlagiopmkjmlaaStep
namespace Go.Proofs.Ytnlagiopmkjmlaa
open Go.RowKit Go.Shelf

theorem opAll_le (l : Int) (rs : List RuleT) : (opAll l rs).length ≤ 1048576 := Nat.le_trans (opAll_len l rs) (by omega)
set_option maxRecDepth 100000 in
set_option maxHeartbeats 1000000 in
theorem eqPair_any (x0 : ByteArray) (x1 x2 x3 x4 : Int) (y0 : ByteArray) (y1 y2 y3 y4 : Int) (w : World) :
    Calls Try.prog 95 #[.agg #[.string x0, .int .i64 x1, .int .i64 x2, .int .i64 x3, .int .i64 x4], .agg #[.string y0, .int .i64 y1, .int .i64 y2, .int .i64 y3, .int .i64 y4]] w (Kept w (.bool (decide (x0 = y0) && decide (x1 = y1) && decide (x2 = y2) && decide (x3 = y3) && decide (x4 = y4)))) := by
  have hW0 : Below w.heap.size w ((w.alloc (.cells #[.string x0, .int .i64 x1, .int .i64 x2, .int .i64 x3, .int .i64 x4] 114)).alloc (.cells #[.string y0, .int .i64 y1, .int .i64 y2, .int .i64 y3, .int .i64 y4] 114)) := ((Below.refl _ _).alloc (Nat.le_refl _) _).alloc (by simp) _
  have hX0 : Bk ((w.alloc (.cells #[.string x0, .int .i64 x1, .int .i64 x2, .int .i64 x3, .int .i64 x4] 114)).alloc (.cells #[.string y0, .int .i64 y1, .int .i64 y2, .int .i64 y3, .int .i64 y4] 114)) w.heap.size 114 #[.string x0, .int .i64 x1, .int .i64 x2, .int .i64 x3, .int .i64 x4] := (Bk.new w _ _).alloc _
  have hY0 : Bk ((w.alloc (.cells #[.string x0, .int .i64 x1, .int .i64 x2, .int .i64 x3, .int .i64 x4] 114)).alloc (.cells #[.string y0, .int .i64 y1, .int .i64 y2, .int .i64 y3, .int .i64 y4] 114)) (w.heap.size + 1) 114 #[.string y0, .int .i64 y1, .int .i64 y2, .int .i64 y3, .int .i64 y4] := (Bk.new (w.alloc (.cells #[.string x0, .int .i64 x1, .int .i64 x2, .int .i64 x3, .int .i64 x4] 114)) _ _).cast (by simp)
  have e0 := str_eq x0 y0
  generalize decide (x0 = y0) = b0 at *
  have h1 := fun W => eqStep_any x1 x2 y1 y2 W
  have h2 := fun W => eqStep_any x3 x4 y3 y4 W
  obtain ⟨r1, hr1⟩ : ∃ r, r = (decide (x1 = y1) && decide (x2 = y2)) := ⟨_, rfl⟩
  obtain ⟨r2, hr2⟩ : ∃ r, r = (decide (x3 = y3) && decide (x4 = y4)) := ⟨_, rfl⟩
  have hres : (b0 && decide (x1 = y1) && decide (x2 = y2) && decide (x3 = y3) && decide (x4 = y4)) = (b0 && r1 && r2) := by rw [hr1, hr2]; simp only [Bool.and_assoc]
  rw [hres]
  rw [← hr1] at h1
  rw [← hr2] at h2
  clear hres
  have H1 := Lib.hid h1
  clear h1
  have H2 := Lib.hid h2
  clear h2
  have Hr1 := Lib.hid hr1
  clear hr1
  have Hr2 := Lib.hid hr2
  clear hr2
  go_enter Try.func95, Try.ntmps95
  cases b0
  · go_wp2_with fail
    go_ret
    exact ⟨rfl, hW0⟩
  go_wp2_with fail
  refine (H1.out _).mono ?_
  rintro e w1 ⟨rfl, b1⟩
  have hW1 := hW0.trans (b1.mono hW0.size)
  have hX1 := hX0.below b1 hX0.lt
  have hY1 := hY0.below b1 hY0.lt
  clear b1 hW0 hX0 hY0
  have p3 : w1.cell? ⟨w.heap.size, 3, none⟩ = some (.int .i64 x3) := by rw [hX1.cell]; rfl
  have p4 : w1.cell? ⟨w.heap.size, 4, none⟩ = some (.int .i64 x4) := by rw [hX1.cell]; rfl
  have q3 : w1.cell? ⟨w.heap.size + 1, 3, none⟩ = some (.int .i64 y3) := by rw [hY1.cell]; rfl
  have q4 : w1.cell? ⟨w.heap.size + 1, 4, none⟩ = some (.int .i64 y4) := by rw [hY1.cell]; rfl
  have pl := hX1.lt
  have ql := hY1.lt
  cases r1
  · go_wp2_with fail
    go_ret
    exact ⟨rfl, hW1⟩
  have HX1 := Lib.hid hX1
  clear hX1
  have HY1 := Lib.hid hY1
  clear hY1
  go_wp2_with fail
  refine (H2.out _).mono ?_
  rintro e w2 ⟨rfl, b2⟩
  have hW2 := hW1.trans (b2.mono hW1.size)
  clear b2 hW1
  cases r2
  · go_wp2_with fail
    go_ret
    exact ⟨rfl, hW2⟩
  · go_wp2_with fail
    go_ret
    exact ⟨rfl, hW2⟩

set_option maxRecDepth 100000 in
set_option maxHeartbeats 400000 in
theorem eqPairS_any (A B : Option Addr) (n m c d : Nat) (xs ys : List PairT) (w : World) (hx : Rd w A (cellsPair xs)) (hy : Rd w B (cellsPair ys)) (hn : n = xs.length) (hm : m = ys.length) (hb : n ≤ 9223372036854775807) (hbm : m ≤ 9223372036854775807) :
    Calls Try.prog 42 #[.slice A n c, .slice B m d] w (Kept w (.bool (decide (xs = ys)))) := by
  subst hn hm
  by_cases hl : xs.length = ys.length
  · have hd : ((xs.length : Int) != ys.length) = false := by simp [hl]
    have h1 : xs.length ≤ ys.length := by omega
    have h2 : ys.length ≤ xs.length := by omega
    have Hl := Lib.hid hl
    clear hl
    go_enter Try.func42, Try.ntmps42
    go_wp2_with fail
    go_loopw [5] (fun i wr => ∃ (k : Nat), k ≤ xs.length ∧ i = .int .i64 k ∧ Below w.heap.size w wr ∧ Same xs ys k) (fun i _ => xs.length - (intOf i).toNat)
    case atStart => exact ⟨0, Nat.zero_le _, rfl, Below.refl _ _, fun _ h => absurd h (Nat.not_lt_zero _)⟩
    case round =>
      obtain ⟨k, hk, rfl, hW, hS⟩ := hrel
      clear hd
      by_cases hlt : k < xs.length
      · have hlt2 : k < ys.length := by omega
        obtain ⟨b1, o1, rfl, hb1, p0, p1, p2, p3, p4⟩ := rd_Pair (hx.keep hW) hlt
        obtain ⟨b2, o2, rfl, hb2, q0, q1, q2, q3, q4⟩ := rd_Pair (hy.keep hW) hlt2
        obtain ⟨⟨x0, x1, x2, x3, x4⟩, hxv⟩ : ∃ x, x = xs[k] := ⟨_, rfl⟩
        obtain ⟨⟨y0, y1, y2, y3, y4⟩, hyv⟩ : ∃ y, y = ys[k] := ⟨_, rfl⟩
        rw [← hxv] at p0 p1 p2 p3 p4
        rw [← hyv] at q0 q1 q2 q3 q4
        clear hx hy
        have Hxv := Lib.hid hxv
        clear hxv
        have Hyv := Lib.hid hyv
        clear hyv
        go_wp2_with fail
        go_still_tail 8, (by kernel_rfl)
        change wpList _ _ _ _ _ wr.drew
        generalize hwd : wr.drew = w2
        have hW2 : Below w.heap.size w w2 := by rw [← hwd]; exact hW.drew
        clear hwd p0 p1 p2 p3 p4 q0 q1 q2 q3 q4
        go_wp2_with fail
        refine (eqPair_any x0 x1 x2 x3 x4 y0 y1 y2 y3 y4 _).mono ?_
        rintro e w3 ⟨rfl, hW3⟩
        have hW4 := hW2.trans (hW3.mono hW2.size)
        obtain ⟨r, hrr⟩ : ∃ r', r' = (decide (x0 = y0) && decide (x1 = y1) && decide (x2 = y2) && decide (x3 = y3) && decide (x4 = y4)) := ⟨_, rfl⟩
        rw [← hrr]
        have HR := Lib.hid hrr
        clear hrr
        have HD : Hid (r = decide (xs[k] = ys[k])) := by
          rw [← Hxv.out, ← Hyv.out]
          unfold Hid
          rw [HR.out]
          simp [Bool.and_assoc]
        cases r
        · go_wp2_with fail
          go_ret
          exact ⟨ret_bool (by symm; rw [decide_eq_false_iff_not]; exact ne_at (of_decide_eq_false HD.out.symm)), hW4⟩
        · go_wp2_with fail
          go_roundw
          case rel => exact ⟨k + 1, by omega, by go_num, hW4, hS.snoc hlt hlt2 (of_decide_eq_true HD.out.symm)⟩
          case measure => simp [intOf]; omega
      · have : k = xs.length := by omega
        subst this
        go_wp2_with fail
        go_ret
        exact ⟨ret_bool (by symm; rw [decide_eq_true_iff]; exact hS.all Hl.out), hW⟩
  · have hd : ((xs.length : Int) != ys.length) = true := by simp; omega
    go_enter Try.func42, Try.ntmps42
    go_wp2
    go_ret
    exact ⟨ret_bool (by simp; intro e; exact hl (by rw [e])), Below.refl _ _⟩
theorem eqPairS_k (A : Option Addr) (n c : Nat) (xs : List PairT) (B : Option Addr) (m d : Nat) (ys : List PairT) (w : World) (hx : Rd w A (cellsPair xs)) (hn : n = xs.length) (hb : n ≤ 9223372036854775807) (hy : Rd w B (cellsPair ys)) (hm : m = ys.length) (hbm : m ≤ 9223372036854775807) :
    Calls Try.prog 42 #[.slice A n c, .slice B m d] w (Kept w (.bool (decide (xs = ys)))) := eqPairS_any A B n m c d xs ys w hx hy hn hm hb hbm

/-- The value of the mark in cell i. -/
def mkPair (k : Int) (i : Nat) : Value := if i % 5 = 0 then .string (mt (k + i)) else if i % 5 = 1 then .int .i64 (k + i) else if i % 5 = 2 then .int .i64 (k + i) else if i % 5 = 3 then .int .i64 (k + i) else .int .i64 (k + i)
theorem mkPair_0 (k : Int) (j : Nat) : mkPair k (j * 5) = .string (mt (k + (j : Int) * 5)) := by
  have e : k + ((j * 5 : Nat) : Int) = k + (j : Int) * 5 := by omega
  unfold mkPair
  rw [if_pos (by omega)]
  rw [e]
theorem mkPair_1 (k : Int) (j : Nat) : mkPair k (j * 5 + 1) = .int .i64 (k + (j : Int) * 5 + 1) := by
  have e : k + ((j * 5 + 1 : Nat) : Int) = k + (j : Int) * 5 + 1 := by omega
  unfold mkPair
  rw [if_neg (by omega)]
  rw [if_pos (by omega)]
  rw [e]
theorem mkPair_2 (k : Int) (j : Nat) : mkPair k (j * 5 + 2) = .int .i64 (k + (j : Int) * 5 + 1 + 1) := by
  have e : k + ((j * 5 + 2 : Nat) : Int) = k + (j : Int) * 5 + 1 + 1 := by omega
  unfold mkPair
  rw [if_neg (by omega)]
  rw [if_neg (by omega)]
  rw [if_pos (by omega)]
  rw [e]
theorem mkPair_3 (k : Int) (j : Nat) : mkPair k (j * 5 + 3) = .int .i64 (k + (j : Int) * 5 + 1 + 1 + 1) := by
  have e : k + ((j * 5 + 3 : Nat) : Int) = k + (j : Int) * 5 + 1 + 1 + 1 := by omega
  unfold mkPair
  rw [if_neg (by omega)]
  rw [if_neg (by omega)]
  rw [if_neg (by omega)]
  rw [if_pos (by omega)]
  rw [e]
theorem mkPair_4 (k : Int) (j : Nat) : mkPair k (j * 5 + 4) = .int .i64 (k + (j : Int) * 5 + 1 + 1 + 1 + 1) := by
  have e : k + ((j * 5 + 4 : Nat) : Int) = k + (j : Int) * 5 + 1 + 1 + 1 + 1 := by omega
  unfold mkPair
  rw [if_neg (by omega)]
  rw [if_neg (by omega)]
  rw [if_neg (by omega)]
  rw [if_neg (by omega)]
  rw [e]

set_option maxRecDepth 100000 in
set_option maxHeartbeats 1000000 in
theorem markPairS_any (A : Option Addr) (n c : Nat) (zs : List Value) (k : Int) (base : Nat) (w : World) (ho : w.ownsRow base 114 5 (.slice A n c) n zs) (h0 : 0 ≤ k) (hk : k + n * 5 ≤ 4611686018427387904) :
    Calls Try.prog 43 #[.slice A n c, .int .i64 k] w (Marks w base 114 5 A n c k (mkPair k)) := by
  go_enter Try.func43, Try.ntmps43
  go_wp2_with fail
  go_loopw [1, 5] (fun kk i wr => ∃ (j : Nat) (ys : List Value), j ≤ n ∧ i = .int .i64 j ∧ kk = .int .i64 (k + (j : Int) * 5) ∧ wr.ownsRow base 114 5 (.slice A n c) n ys ∧ Told ys (mkPair k) (j * 5) ∧ w.grownBy wr (Value.slice A n c).ownBlock) (fun _ i _ => n - (intOf i).toNat)
  case atStart => exact ⟨0, zs, Nat.zero_le _, rfl, by simp, ho, by rw [Nat.zero_mul]; exact Told.zero _ _, grown_refl _ _⟩
  case round =>
    obtain ⟨j, ys, hj, rfl, rfl, hO, hT, hG⟩ := hrel
    by_cases hlt : j < n
    · obtain ⟨g, rfl, hbg, hlt'⟩ := own_some hO (by omega)
      have hys : n * 5 ≤ ys.length := by rw [hO.1]; exact Nat.le_refl _
      clear ho
      go_wp2_with fail
      refine (markText_any (k + (j : Int) * 5) _ (by omega) (by omega)).mono ?_
      rintro e u0 ⟨rfl, hU0⟩
      have hA0 := own_keep hO hU0 (Nat.le_refl _)
      have hG0 := grown_trans hG (grown_of_below hU0 _)
      have cl0 := own_cell hA0 (j := j * 5) (by omega)
      obtain ⟨⟨v0, hv0⟩, hf0⟩ := cl0
      have hB0 := hA0.stored (j * 5) (mkPair k (j * 5))
      rw [mkPair_0] at hB0
      have hT0 := hT.put (by omega)
      rw [mkPair_0] at hT0
      have hK0 := grown_trans hG0 hB0.2
      have hO0 := hB0.1
      clear hB0
      have cl1 := own_cell hO0 (j := j * 5 + 1) (by omega)
      obtain ⟨⟨v1, hv1⟩, hf1⟩ := cl1
      have hB1 := hO0.stored (j * 5 + 1) (mkPair k (j * 5 + 1))
      rw [mkPair_1] at hB1
      have hT1 := hT0.put (by simp only [List.length_set]; omega)
      rw [mkPair_1] at hT1
      have hK1 := grown_trans hK0 hB1.2
      have hO1 := hB1.1
      clear hB1
      have cl2 := own_cell hO1 (j := j * 5 + 2) (by omega)
      obtain ⟨⟨v2, hv2⟩, hf2⟩ := cl2
      have hB2 := hO1.stored (j * 5 + 2) (mkPair k (j * 5 + 2))
      rw [mkPair_2] at hB2
      have hT2 := hT1.put (by simp only [List.length_set]; omega)
      rw [mkPair_2] at hT2
      have hK2 := grown_trans hK1 hB2.2
      have hO2 := hB2.1
      clear hB2
      have cl3 := own_cell hO2 (j := j * 5 + 3) (by omega)
      obtain ⟨⟨v3, hv3⟩, hf3⟩ := cl3
      have hB3 := hO2.stored (j * 5 + 3) (mkPair k (j * 5 + 3))
      rw [mkPair_3] at hB3
      have hT3 := hT2.put (by simp only [List.length_set]; omega)
      rw [mkPair_3] at hT3
      have hK3 := grown_trans hK2 hB3.2
      have hO3 := hB3.1
      clear hB3
      have cl4 := own_cell hO3 (j := j * 5 + 4) (by omega)
      obtain ⟨⟨v4, hv4⟩, hf4⟩ := cl4
      have hB4 := hO3.stored (j * 5 + 4) (mkPair k (j * 5 + 4))
      rw [mkPair_4] at hB4
      have hT4 := hT3.put (by simp only [List.length_set]; omega)
      rw [mkPair_4] at hT4
      have hK4 := grown_trans hK3 hB4.2
      have hO4 := hB4.1
      clear hB4
      go_wp2_with fail
      go_roundw
      case rel => exact ⟨j + 1, _, by omega, by go_num, by go_num, hO4, (by rw [Nat.add_mul]; exact hT4), hK4⟩
      case measure => simp [intOf]; omega
    · have : j = n := by omega
      subst this
      go_wp2
      go_ret
      have e := hT.all (j := j * 5) hO.1
      exact ⟨ret_int (by simp), by rw [← e]; exact hO, hG⟩

set_option maxRecDepth 100000 in
set_option maxHeartbeats 8000000 in
theorem heldPairS_k (A : Option Addr) (n c : Nat) (k : Int) (w : World) (hr : Rd w A ((List.range (n * 5)).map (mkPair k))) (h0 : 0 ≤ k) (hk : k + n * 5 ≤ 4611686018427387904) :
    Calls Try.prog 44 #[.slice A n c, .int .i64 k] w (Kept w (.int .i64 (k + (n * 5 : Nat)))) := by
  go_enter Try.func44, Try.ntmps44
  go_wp2_with fail
  go_loopw [1, 5] (fun kk i wr => ∃ (j : Nat), j ≤ n ∧ i = .int .i64 j ∧ kk = .int .i64 (k + (j : Int) * 5) ∧ Below w.heap.size w wr) (fun _ i _ => n - (intOf i).toNat)
  case atStart => exact ⟨0, Nat.zero_le _, rfl, by simp, Below.refl _ _⟩
  case round =>
    obtain ⟨j, hj, rfl, rfl, hW⟩ := hrel
    by_cases hlt : j < n
    · have z0 := range_map_get (mkPair k) (n * 5) (j * 5) (by omega)
      obtain ⟨b, o, rfl, hb, hc⟩ := (hr.keep hW) (by intro e; rw [e] at z0; cases z0)
      clear z0 hr
      have c0 : wr.cell? ⟨b, o + j * 5, none⟩ = some (.string (mt (k + (j : Int) * 5))) := by have h := hc (j * 5) _ (range_map_get (mkPair k) (n * 5) (j * 5) (by omega)); rw [mkPair_0] at h; exact h
      have c1 : wr.cell? ⟨b, o + j * 5 + 1, none⟩ = some (.int .i64 (k + (j : Int) * 5 + 1)) := by have h := hc (j * 5 + 1) _ (range_map_get (mkPair k) (n * 5) (j * 5 + 1) (by omega)); rw [mkPair_1] at h; exact h
      have c2 : wr.cell? ⟨b, o + j * 5 + 2, none⟩ = some (.int .i64 (k + (j : Int) * 5 + 1 + 1)) := by have h := hc (j * 5 + 2) _ (range_map_get (mkPair k) (n * 5) (j * 5 + 2) (by omega)); rw [mkPair_2] at h; exact h
      have c3 : wr.cell? ⟨b, o + j * 5 + 3, none⟩ = some (.int .i64 (k + (j : Int) * 5 + 1 + 1 + 1)) := by have h := hc (j * 5 + 3) _ (range_map_get (mkPair k) (n * 5) (j * 5 + 3) (by omega)); rw [mkPair_3] at h; exact h
      have c4 : wr.cell? ⟨b, o + j * 5 + 4, none⟩ = some (.int .i64 (k + (j : Int) * 5 + 1 + 1 + 1 + 1)) := by have h := hc (j * 5 + 4) _ (range_map_get (mkPair k) (n * 5) (j * 5 + 4) (by omega)); rw [mkPair_4] at h; exact h
      clear hc
      obtain ⟨s0, hs0⟩ : ∃ s, s = mt (k + (j : Int) * 5) := ⟨_, rfl⟩
      rw [← hs0] at c0
      have hcall0 := fun W => markText_any (k + (j : Int) * 5) W (by omega) (by omega)
      rw [← hs0] at hcall0
      have Hs0 := Lib.hid hs0
      clear hs0
      have Hcall0 := Lib.hid hcall0
      clear hcall0
      have e0 : ∀ (W : World), Below wr.drew.heap.size wr.drew W → W.cell? ⟨b, o + j * 5, none⟩ = some (.string s0) ∧ Below w.heap.size w W ∧ Below wr.heap.size wr W := fun W hW1 => ⟨(hW1.cell (p := ⟨b, o + j * 5, none⟩) hb).trans c0, hW.drew.trans (hW1.mono hW.size), ((Below.refl _ wr).drew).trans hW1⟩
      have z0 := e0 _ (Below.refl _ _)
      have E0 := Lib.hid e0
      clear e0
      have Z0 := Lib.hid z0
      clear z0
      go_wp2_with fail
      go_region_held3 (fun w' => w'.cell? ⟨b, o + j * 5, none⟩ = some (.string s0) ∧ Below w.heap.size w w' ∧ Below wr.heap.size wr w') (first | exact Z0.out | exact E0.out _ hV0) ((refine (Hcall0.out _).mono ?_; rintro e u0 ⟨rfl, hV0⟩))
      have hX0 : Below wr.heap.size wr u0 := ((Below.refl _ wr).drew).trans hV0
      have hY0 := hW.trans (hX0.mono hW.size)
      have d1 := (hX0.cell (p := ⟨b, o + j * 5 + 1, none⟩) hb).trans c1
      clear c1
      have c1 := d1
      clear d1
      have d2 := (hX0.cell (p := ⟨b, o + j * 5 + 2, none⟩) hb).trans c2
      clear c2
      have c2 := d2
      clear d2
      have d3 := (hX0.cell (p := ⟨b, o + j * 5 + 3, none⟩) hb).trans c3
      clear c3
      have c3 := d3
      clear d3
      have d4 := (hX0.cell (p := ⟨b, o + j * 5 + 4, none⟩) hb).trans c4
      clear c4
      have c4 := d4
      clear d4
      have hb' := Nat.lt_of_lt_of_le hb hX0.size
      clear hb
      have hb := hb'
      clear hb' c0 E0 Z0 Hcall0 hV0
      go_wp2_with fail
      go_roundw
      case rel => exact ⟨j + 1, by omega, by go_num, by go_num, hY0⟩
      case measure => simp [intOf]; omega
    · have : j = n := by omega
      subst this
      go_wp2
      go_ret
      exact ⟨ret_int (by simp), hW⟩

end Go.Proofs.Ytnlagiopmkjmlaa

