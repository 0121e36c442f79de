/- Walks over the laws' helpers for impl.Order: eqOrder, eqOrderS, markOrderS, heldOrderS and the readings of slices of them. -/
import Derived.Test.YtgnmfneinnojnaaMark
import Derived.Test.YtgnmfneinnojnaaApp
namespace Go.Proofs.Ytgnmfneinnojnaa
open Go.RowKit Go.Shelf

abbrev OrderT : Type := ByteArray × ByteArray × Bool
def encOrder (x : OrderT) : List Value := [.string x.1, .string x.2.1, .bool x.2.2]
def cellsOrder (xs : List OrderT) : List Value := xs.flatMap encOrder
theorem encOrder_len (x : OrderT) : (encOrder x).length = 3 := rfl
theorem cellsOrder_len (xs : List OrderT) : (cellsOrder xs).length = xs.length * 3 := flat_len (enc := encOrder) (m := 3) (fun _ => rfl) xs
theorem info_Order : (Try.prog.info? 95).map (fun i => (i.zero, i.size, i.bytes)) = some (some (.agg #[.string ⟨#[]⟩, .string ⟨#[]⟩, .bool false]), 3, 40) := by kernel_rfl

/-- The cells of element k. -/
theorem rd_Order {w : World} {A : Option Addr} {xs : List OrderT} (h : Rd w A (cellsOrder xs)) {k : Nat} (hk : k < xs.length) : ∃ b off, A = some ⟨b, off, none⟩ ∧ b < w.heap.size ∧
    w.cell? ⟨b, off + k * 3, none⟩ = some (.string xs[k].1) ∧ w.cell? ⟨b, off + k * 3 + 1, none⟩ = some (.string xs[k].2.1) ∧ w.cell? ⟨b, off + k * 3 + 2, none⟩ = some (.bool xs[k].2.2) := by
  have f0 := flat_get (enc := encOrder) (m := 3) (fun _ => rfl) xs k 0 hk (by omega)
  obtain ⟨b, off, e, hb, hc⟩ := h (by intro e; unfold cellsOrder at e; rw [e] at f0; cases f0)
  refine ⟨b, off, e, hb, ?_, ?_, ?_⟩
  · exact hc (k * 3) _ f0
  · exact hc (k * 3 + 1) _ (flat_get (enc := encOrder) (m := 3) (fun _ => rfl) xs k 1 hk (by omega))
  · exact hc (k * 3 + 2) _ (flat_get (enc := encOrder) (m := 3) (fun _ => rfl) xs k 2 hk (by omega))

set_option maxRecDepth 100000 in
set_option maxHeartbeats 400000 in
theorem eqOrder_any (x0 : ByteArray) (x1 : ByteArray) (x2 : Bool) (y0 : ByteArray) (y1 : ByteArray) (y2 : Bool) (w : World) :
    Calls Try.prog 74 #[.agg #[.string x0, .string x1, .bool x2], .agg #[.string y0, .string y1, .bool y2]] w (Kept w (.bool (decide (x0 = y0) && decide (x1 = y1) && decide (x2 = y2)))) := by
  have e0 := str_eq x0 y0
  have e1 := str_eq x1 y1
  have e2 : (x2 == y2) = decide (x2 = y2) := by cases x2 <;> cases y2 <;> rfl
  generalize decide (x0 = y0) = b0 at *
  generalize decide (x1 = y1) = b1 at *
  generalize decide (x2 = y2) = b2 at *
  go_enter Try.func74, Try.ntmps74
  cases b0
  · go_wp2
    go_ret
    exact ⟨rfl, ((Below.refl _ _).alloc (Nat.le_refl _) _).alloc (by simp) _⟩
  cases b1
  · go_wp2
    go_ret
    exact ⟨rfl, ((Below.refl _ _).alloc (Nat.le_refl _) _).alloc (by simp) _⟩
  cases b2
  · go_wp2
    go_ret
    exact ⟨rfl, ((Below.refl _ _).alloc (Nat.le_refl _) _).alloc (by simp) _⟩
  · go_wp2
    go_ret
    exact ⟨rfl, ((Below.refl _ _).alloc (Nat.le_refl _) _).alloc (by simp) _⟩

set_option maxRecDepth 100000 in
set_option maxHeartbeats 400000 in
theorem eqOrderS_any (A B : Option Addr) (n m c d : Nat) (xs ys : List OrderT) (w : World) (hx : Rd w A (cellsOrder xs)) (hy : Rd w B (cellsOrder ys)) (hn : n = xs.length) (hm : m = ys.length) (hb : n ≤ 9223372036854775807) (hbm : m ≤ 9223372036854775807) :
    Calls Try.prog 26 #[.slice A n c, .slice B m d] w (Kept w (.bool (decide (xs = ys)))) := by
  subst hn hm
  by_cases hl : xs.length = ys.length
  · have hd : ((xs.length : Int) != ys.length) = false := by simp [hl]
    have h1 : xs.length ≤ ys.length := by omega
    have h2 : ys.length ≤ xs.length := by omega
    have Hl := Lib.hid hl
    clear hl
    go_enter Try.func26, Try.ntmps26
    go_wp2_with fail
    go_loopw [5] (fun i wr => ∃ (k : Nat), k ≤ xs.length ∧ i = .int .i64 k ∧ Below w.heap.size w wr ∧ Same xs ys k) (fun i _ => xs.length - (intOf i).toNat)
    case atStart => exact ⟨0, Nat.zero_le _, rfl, Below.refl _ _, fun _ h => absurd h (Nat.not_lt_zero _)⟩
    case round =>
      obtain ⟨k, hk, rfl, hW, hS⟩ := hrel
      clear hd
      by_cases hlt : k < xs.length
      · have hlt2 : k < ys.length := by omega
        obtain ⟨b1, o1, rfl, hb1, p0, p1, p2⟩ := rd_Order (hx.keep hW) hlt
        obtain ⟨b2, o2, rfl, hb2, q0, q1, q2⟩ := rd_Order (hy.keep hW) hlt2
        obtain ⟨⟨x0, x1, x2⟩, hxv⟩ : ∃ x, x = xs[k] := ⟨_, rfl⟩
        obtain ⟨⟨y0, y1, y2⟩, hyv⟩ : ∃ y, y = ys[k] := ⟨_, rfl⟩
        rw [← hxv] at p0 p1 p2
        rw [← hyv] at q0 q1 q2
        clear hx hy
        have Hxv := Lib.hid hxv
        clear hxv
        have Hyv := Lib.hid hyv
        clear hyv
        go_wp2_with fail
        go_still_tail 8, (by kernel_rfl)
        change wpList _ _ _ _ _ wr.drew
        generalize hwd : wr.drew = w2
        have hW2 : Below w.heap.size w w2 := by rw [← hwd]; exact hW.drew
        clear hwd p0 p1 p2 q0 q1 q2
        go_wp2_with fail
        refine (eqOrder_any x0 x1 x2 y0 y1 y2 _).mono ?_
        rintro e w3 ⟨rfl, hW3⟩
        have hW4 := hW2.trans (hW3.mono hW2.size)
        obtain ⟨r, hrr⟩ : ∃ r', r' = (decide (x0 = y0) && decide (x1 = y1) && decide (x2 = y2)) := ⟨_, rfl⟩
        rw [← hrr]
        have HR := Lib.hid hrr
        clear hrr
        have HD : Hid (r = decide (xs[k] = ys[k])) := by
          rw [← Hxv.out, ← Hyv.out]
          unfold Hid
          rw [HR.out]
          simp [Bool.and_assoc]
        cases r
        · go_wp2_with fail
          go_ret
          exact ⟨ret_bool (by symm; rw [decide_eq_false_iff_not]; exact ne_at (of_decide_eq_false HD.out.symm)), hW4⟩
        · go_wp2_with fail
          go_roundw
          case rel => exact ⟨k + 1, by omega, by go_num, hW4, hS.snoc hlt hlt2 (of_decide_eq_true HD.out.symm)⟩
          case measure => simp [intOf]; omega
      · have : k = xs.length := by omega
        subst this
        go_wp2_with fail
        go_ret
        exact ⟨ret_bool (by symm; rw [decide_eq_true_iff]; exact hS.all Hl.out), hW⟩
  · have hd : ((xs.length : Int) != ys.length) = true := by simp; omega
    go_enter Try.func26, Try.ntmps26
    go_wp2
    go_ret
    exact ⟨ret_bool (by simp; intro e; exact hl (by rw [e])), Below.refl _ _⟩
theorem eqOrderS_k (A : Option Addr) (n c : Nat) (xs : List OrderT) (B : Option Addr) (m d : Nat) (ys : List OrderT) (w : World) (hx : Rd w A (cellsOrder xs)) (hn : n = xs.length) (hb : n ≤ 9223372036854775807) (hy : Rd w B (cellsOrder ys)) (hm : m = ys.length) (hbm : m ≤ 9223372036854775807) :
    Calls Try.prog 26 #[.slice A n c, .slice B m d] w (Kept w (.bool (decide (xs = ys)))) := eqOrderS_any A B n m c d xs ys w hx hy hn hm hb hbm



end Go.Proofs.Ytgnmfneinnojnaa
