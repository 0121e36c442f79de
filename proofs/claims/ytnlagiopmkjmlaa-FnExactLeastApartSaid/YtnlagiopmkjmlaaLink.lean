/- Walks over the laws' helpers for impl.Link: eqLink, eqLinkS, markLinkS, heldLinkS and the readings of slices of them. -/
import Derived.Test.YtnlagiopmkjmlaaMark
import Derived.Test.YtnlagiopmkjmlaaApp
namespace Go.Proofs.Ytnlagiopmkjmlaa
open Go.RowKit Go.Shelf

abbrev LinkT : Type := Int × Int × Bool
def encLink (x : LinkT) : List Value := [.int .i64 x.1, .int .i64 x.2.1, .bool x.2.2]
def cellsLink (xs : List LinkT) : List Value := xs.flatMap encLink
theorem encLink_len (x : LinkT) : (encLink x).length = 3 := rfl
theorem cellsLink_len (xs : List LinkT) : (cellsLink xs).length = xs.length * 3 := flat_len (enc := encLink) (m := 3) (fun _ => rfl) xs
theorem info_Link : (Try.prog.info? 76).map (fun i => (i.zero, i.size, i.bytes)) = some (some (.agg #[.int .i64 0, .int .i64 0, .bool false]), 3, 24) := by kernel_rfl

/-- The cells of element k. -/
theorem rd_Link {w : World} {A : Option Addr} {xs : List LinkT} (h : Rd w A (cellsLink xs)) {k : Nat} (hk : k < xs.length) : ∃ b off, A = some ⟨b, off, none⟩ ∧ b < w.heap.size ∧
    w.cell? ⟨b, off + k * 3, none⟩ = some (.int .i64 xs[k].1) ∧ w.cell? ⟨b, off + k * 3 + 1, none⟩ = some (.int .i64 xs[k].2.1) ∧ w.cell? ⟨b, off + k * 3 + 2, none⟩ = some (.bool xs[k].2.2) := by
  have f0 := flat_get (enc := encLink) (m := 3) (fun _ => rfl) xs k 0 hk (by omega)
  obtain ⟨b, off, e, hb, hc⟩ := h (by intro e; unfold cellsLink at e; rw [e] at f0; cases f0)
  refine ⟨b, off, e, hb, ?_, ?_, ?_⟩
  · exact hc (k * 3) _ f0
  · exact hc (k * 3 + 1) _ (flat_get (enc := encLink) (m := 3) (fun _ => rfl) xs k 1 hk (by omega))
  · exact hc (k * 3 + 2) _ (flat_get (enc := encLink) (m := 3) (fun _ => rfl) xs k 2 hk (by omega))

set_option maxRecDepth 100000 in
set_option maxHeartbeats 400000 in
theorem eqLink_any (x0 : Int) (x1 : Int) (x2 : Bool) (y0 : Int) (y1 : Int) (y2 : Bool) (w : World) :
    Calls Try.prog 64 #[.agg #[.int .i64 x0, .int .i64 x1, .bool x2], .agg #[.int .i64 y0, .int .i64 y1, .bool y2]] w (Kept w (.bool (decide (x0 = y0) && decide (x1 = y1) && decide (x2 = y2)))) := by
  have e0 : (x0 == y0) = decide (x0 = y0) := rfl
  have i0 : (x0 != y0) = !decide (x0 = y0) := rfl
  have e1 : (x1 == y1) = decide (x1 = y1) := rfl
  have i1 : (x1 != y1) = !decide (x1 = y1) := rfl
  have e2 : (x2 == y2) = decide (x2 = y2) := by cases x2 <;> cases y2 <;> rfl
  generalize decide (x0 = y0) = b0 at *
  generalize decide (x1 = y1) = b1 at *
  generalize decide (x2 = y2) = b2 at *
  go_enter Try.func64, Try.ntmps64
  cases b0
  · go_wp2
    go_ret
    exact ⟨rfl, ((Below.refl _ _).alloc (Nat.le_refl _) _).alloc (by simp) _⟩
  cases b1
  · go_wp2
    go_ret
    exact ⟨rfl, ((Below.refl _ _).alloc (Nat.le_refl _) _).alloc (by simp) _⟩
  cases b2
  · go_wp2
    go_ret
    exact ⟨rfl, ((Below.refl _ _).alloc (Nat.le_refl _) _).alloc (by simp) _⟩
  · go_wp2
    go_ret
    exact ⟨rfl, ((Below.refl _ _).alloc (Nat.le_refl _) _).alloc (by simp) _⟩

set_option maxRecDepth 100000 in
set_option maxHeartbeats 400000 in
theorem eqLinkS_any (A B : Option Addr) (n m c d : Nat) (xs ys : List LinkT) (w : World) (hx : Rd w A (cellsLink xs)) (hy : Rd w B (cellsLink ys)) (hn : n = xs.length) (hm : m = ys.length) (hb : n ≤ 9223372036854775807) (hbm : m ≤ 9223372036854775807) :
    Calls Try.prog 22 #[.slice A n c, .slice B m d] w (Kept w (.bool (decide (xs = ys)))) := by
  subst hn hm
  by_cases hl : xs.length = ys.length
  · have hd : ((xs.length : Int) != ys.length) = false := by simp [hl]
    have h1 : xs.length ≤ ys.length := by omega
    have h2 : ys.length ≤ xs.length := by omega
    have Hl := Lib.hid hl
    clear hl
    go_enter Try.func22, Try.ntmps22
    go_wp2_with fail
    go_loopw [5] (fun i wr => ∃ (k : Nat), k ≤ xs.length ∧ i = .int .i64 k ∧ Below w.heap.size w wr ∧ Same xs ys k) (fun i _ => xs.length - (intOf i).toNat)
    case atStart => exact ⟨0, Nat.zero_le _, rfl, Below.refl _ _, fun _ h => absurd h (Nat.not_lt_zero _)⟩
    case round =>
      obtain ⟨k, hk, rfl, hW, hS⟩ := hrel
      clear hd
      by_cases hlt : k < xs.length
      · have hlt2 : k < ys.length := by omega
        obtain ⟨b1, o1, rfl, hb1, p0, p1, p2⟩ := rd_Link (hx.keep hW) hlt
        obtain ⟨b2, o2, rfl, hb2, q0, q1, q2⟩ := rd_Link (hy.keep hW) hlt2
        obtain ⟨⟨x0, x1, x2⟩, hxv⟩ : ∃ x, x = xs[k] := ⟨_, rfl⟩
        obtain ⟨⟨y0, y1, y2⟩, hyv⟩ : ∃ y, y = ys[k] := ⟨_, rfl⟩
        rw [← hxv] at p0 p1 p2
        rw [← hyv] at q0 q1 q2
        clear hx hy
        have Hxv := Lib.hid hxv
        clear hxv
        have Hyv := Lib.hid hyv
        clear hyv
        go_wp2_with fail
        go_still_tail 8, (by kernel_rfl)
        change wpList _ _ _ _ _ wr.drew
        generalize hwd : wr.drew = w2
        have hW2 : Below w.heap.size w w2 := by rw [← hwd]; exact hW.drew
        clear hwd p0 p1 p2 q0 q1 q2
        go_wp2_with fail
        refine (eqLink_any x0 x1 x2 y0 y1 y2 _).mono ?_
        rintro e w3 ⟨rfl, hW3⟩
        have hW4 := hW2.trans (hW3.mono hW2.size)
        obtain ⟨r, hrr⟩ : ∃ r', r' = (decide (x0 = y0) && decide (x1 = y1) && decide (x2 = y2)) := ⟨_, rfl⟩
        rw [← hrr]
        have HR := Lib.hid hrr
        clear hrr
        have HD : Hid (r = decide (xs[k] = ys[k])) := by
          rw [← Hxv.out, ← Hyv.out]
          unfold Hid
          rw [HR.out]
          simp [Bool.and_assoc]
        cases r
        · go_wp2_with fail
          go_ret
          exact ⟨ret_bool (by symm; rw [decide_eq_false_iff_not]; exact ne_at (of_decide_eq_false HD.out.symm)), hW4⟩
        · go_wp2_with fail
          go_roundw
          case rel => exact ⟨k + 1, by omega, by go_num, hW4, hS.snoc hlt hlt2 (of_decide_eq_true HD.out.symm)⟩
          case measure => simp [intOf]; omega
      · have : k = xs.length := by omega
        subst this
        go_wp2_with fail
        go_ret
        exact ⟨ret_bool (by symm; rw [decide_eq_true_iff]; exact hS.all Hl.out), hW⟩
  · have hd : ((xs.length : Int) != ys.length) = true := by simp; omega
    go_enter Try.func22, Try.ntmps22
    go_wp2
    go_ret
    exact ⟨ret_bool (by simp; intro e; exact hl (by rw [e])), Below.refl _ _⟩
theorem eqLinkS_k (A : Option Addr) (n c : Nat) (xs : List LinkT) (B : Option Addr) (m d : Nat) (ys : List LinkT) (w : World) (hx : Rd w A (cellsLink xs)) (hn : n = xs.length) (hb : n ≤ 9223372036854775807) (hy : Rd w B (cellsLink ys)) (hm : m = ys.length) (hbm : m ≤ 9223372036854775807) :
    Calls Try.prog 22 #[.slice A n c, .slice B m d] w (Kept w (.bool (decide (xs = ys)))) := eqLinkS_any A B n m c d xs ys w hx hy hn hm hb hbm

/-- The value of the mark in cell i. -/
def mkLink (k : Int) (i : Nat) : Value := if i % 3 = 0 then .int .i64 (k + i) else if i % 3 = 1 then .int .i64 (k + i) else .bool ((k + i) % 3 == 0)
theorem mkLink_0 (k : Int) (j : Nat) : mkLink k (j * 3) = .int .i64 (k + (j : Int) * 3) := by
  have e : k + ((j * 3 : Nat) : Int) = k + (j : Int) * 3 := by omega
  unfold mkLink
  rw [if_pos (by omega)]
  rw [e]
theorem mkLink_1 (k : Int) (j : Nat) : mkLink k (j * 3 + 1) = .int .i64 (k + (j : Int) * 3 + 1) := by
  have e : k + ((j * 3 + 1 : Nat) : Int) = k + (j : Int) * 3 + 1 := by omega
  unfold mkLink
  rw [if_neg (by omega)]
  rw [if_pos (by omega)]
  rw [e]
theorem mkLink_2 (k : Int) (j : Nat) : mkLink k (j * 3 + 2) = .bool ((k + (j : Int) * 3 + 1 + 1) % 3 == 0) := by
  have e : k + ((j * 3 + 2 : Nat) : Int) = k + (j : Int) * 3 + 1 + 1 := by omega
  unfold mkLink
  rw [if_neg (by omega)]
  rw [if_neg (by omega)]
  rw [e]

set_option maxRecDepth 100000 in
set_option maxHeartbeats 1000000 in
theorem markLinkS_any (A : Option Addr) (n c : Nat) (zs : List Value) (k : Int) (base : Nat) (w : World) (ho : w.ownsRow base 76 3 (.slice A n c) n zs) (h0 : 0 ≤ k) (hk : k + n * 3 ≤ 4611686018427387904) :
    Calls Try.prog 24 #[.slice A n c, .int .i64 k] w (Marks w base 76 3 A n c k (mkLink k)) := by
  go_enter Try.func24, Try.ntmps24
  go_wp2_with fail
  go_loopw [1, 5] (fun kk i wr => ∃ (j : Nat) (ys : List Value), j ≤ n ∧ i = .int .i64 j ∧ kk = .int .i64 (k + (j : Int) * 3) ∧ wr.ownsRow base 76 3 (.slice A n c) n ys ∧ Told ys (mkLink k) (j * 3) ∧ w.grownBy wr (Value.slice A n c).ownBlock) (fun _ i _ => n - (intOf i).toNat)
  case atStart => exact ⟨0, zs, Nat.zero_le _, rfl, by simp, ho, by rw [Nat.zero_mul]; exact Told.zero _ _, grown_refl _ _⟩
  case round =>
    obtain ⟨j, ys, hj, rfl, rfl, hO, hT, hG⟩ := hrel
    by_cases hlt : j < n
    · obtain ⟨g, rfl, hbg, hlt'⟩ := own_some hO (by omega)
      have hys : n * 3 ≤ ys.length := by rw [hO.1]; exact Nat.le_refl _
      clear ho
      have cl0 := own_cell hO (j := j * 3) (by omega)
      obtain ⟨⟨v0, hv0⟩, hf0⟩ := cl0
      have hB0 := hO.stored (j * 3) (mkLink k (j * 3))
      rw [mkLink_0] at hB0
      have hT0 := hT.put (by omega)
      rw [mkLink_0] at hT0
      have hK0 := grown_trans hG hB0.2
      have hO0 := hB0.1
      clear hB0
      have cl1 := own_cell hO0 (j := j * 3 + 1) (by omega)
      obtain ⟨⟨v1, hv1⟩, hf1⟩ := cl1
      have hB1 := hO0.stored (j * 3 + 1) (mkLink k (j * 3 + 1))
      rw [mkLink_1] at hB1
      have hT1 := hT0.put (by simp only [List.length_set]; omega)
      rw [mkLink_1] at hT1
      have hK1 := grown_trans hK0 hB1.2
      have hO1 := hB1.1
      clear hB1
      have cl2 := own_cell hO1 (j := j * 3 + 2) (by omega)
      obtain ⟨⟨v2, hv2⟩, hf2⟩ := cl2
      have hB2 := hO1.stored (j * 3 + 2) (mkLink k (j * 3 + 2))
      rw [mkLink_2] at hB2
      have hT2 := hT1.put (by simp only [List.length_set]; omega)
      rw [mkLink_2] at hT2
      have hK2 := grown_trans hK1 hB2.2
      have hO2 := hB2.1
      clear hB2
      go_wp2_with fail
      go_roundw
      case rel => exact ⟨j + 1, _, by omega, by go_num, by go_num, hO2, (by rw [Nat.add_mul]; exact hT2), hK2⟩
      case measure => simp [intOf]; omega
    · have : j = n := by omega
      subst this
      go_wp2
      go_ret
      have e := hT.all (j := j * 3) hO.1
      exact ⟨ret_int (by simp), by rw [← e]; exact hO, hG⟩

set_option maxRecDepth 100000 in
set_option maxHeartbeats 8000000 in
theorem heldLinkS_k (A : Option Addr) (n c : Nat) (k : Int) (w : World) (hr : Rd w A ((List.range (n * 3)).map (mkLink k))) (h0 : 0 ≤ k) (hk : k + n * 3 ≤ 4611686018427387904) :
    Calls Try.prog 25 #[.slice A n c, .int .i64 k] w (Kept w (.int .i64 (k + (n * 3 : Nat)))) := by
  go_enter Try.func25, Try.ntmps25
  go_wp2_with fail
  go_loopw [1, 5] (fun kk i wr => ∃ (j : Nat), j ≤ n ∧ i = .int .i64 j ∧ kk = .int .i64 (k + (j : Int) * 3) ∧ Below w.heap.size w wr) (fun _ i _ => n - (intOf i).toNat)
  case atStart => exact ⟨0, Nat.zero_le _, rfl, by simp, Below.refl _ _⟩
  case round =>
    obtain ⟨j, hj, rfl, rfl, hW⟩ := hrel
    by_cases hlt : j < n
    · have z0 := range_map_get (mkLink k) (n * 3) (j * 3) (by omega)
      obtain ⟨b, o, rfl, hb, hc⟩ := (hr.keep hW) (by intro e; rw [e] at z0; cases z0)
      clear z0 hr
      have c0 : wr.cell? ⟨b, o + j * 3, none⟩ = some (.int .i64 (k + (j : Int) * 3)) := by have h := hc (j * 3) _ (range_map_get (mkLink k) (n * 3) (j * 3) (by omega)); rw [mkLink_0] at h; exact h
      have c1 : wr.cell? ⟨b, o + j * 3 + 1, none⟩ = some (.int .i64 (k + (j : Int) * 3 + 1)) := by have h := hc (j * 3 + 1) _ (range_map_get (mkLink k) (n * 3) (j * 3 + 1) (by omega)); rw [mkLink_1] at h; exact h
      have c2 : wr.cell? ⟨b, o + j * 3 + 2, none⟩ = some (.bool ((k + (j : Int) * 3 + 1 + 1) % 3 == 0)) := by have h := hc (j * 3 + 2) _ (range_map_get (mkLink k) (n * 3) (j * 3 + 2) (by omega)); rw [mkLink_2] at h; exact h
      clear hc
      go_wp2_with fail
      go_roundw
      case rel => exact ⟨j + 1, by omega, by go_num, by go_num, hW⟩
      case measure => simp [intOf]; omega
    · have : j = n := by omega
      subst this
      go_wp2
      go_ret
      exact ⟨ret_int (by simp), hW⟩

end Go.Proofs.Ytnlagiopmkjmlaa
