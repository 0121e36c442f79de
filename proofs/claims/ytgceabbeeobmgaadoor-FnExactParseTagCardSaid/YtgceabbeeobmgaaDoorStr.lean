/- Walks over the laws' helpers for slices of strings: toStringS, eqStringS, markStringS, heldStringS, szStringS. -/


import Derived.Test.YtgceabbeeobmgaaDoorMark
import Derived.Test.YtgceabbeeobmgaaDoorApp
namespace Go.Proofs.YtgceabbeeobmgaaDoor

open Go.RowKit Go.Shelf

def strs (ss : List ByteArray) : List Value := ss.map Value.string
theorem strs_get (ss : List ByteArray) (k : Nat) (h : k < ss.length) : (strs ss)[k]? = some (.string ss[k]) := by simp [strs, h]
theorem info_str : (Tryd.prog.info? 9).map (fun i => (i.zero, i.size, i.bytes)) = some (some (.string ⟨#[]⟩), 1, 16) := by kernel_rfl
set_option maxRecDepth 100000 in
set_option maxHeartbeats 1000000 in
theorem eqStringS_k (A : Option Addr) (n c : Nat) (xs : List ByteArray) (B : Option Addr) (m d : Nat) (ys : List ByteArray) (w : World) (hx : Rd w A (strs xs)) (hn : n = xs.length) (hb : n ≤ 9223372036854775807) (hy : Rd w B (strs ys)) (hm : m = ys.length) (hbm : m ≤ 9223372036854775807) :
    Calls Tryd.prog 48 #[.slice A n c, .slice B m d] w (Kept w (.bool (decide (xs = ys)))) := by
  subst hn hm
  by_cases hl : xs.length = ys.length
  · have hd : ((xs.length : Int) != ys.length) = false := by simp [hl]
    have h1 : xs.length ≤ ys.length := by omega
    have h2 : ys.length ≤ xs.length := by omega
    have Hl := Lib.hid hl
    clear hl
    go_enter Tryd.func48, Tryd.ntmps48
    go_wp2
    go_loopw [5] (fun i wr => ∃ (k q : Nat), k ≤ xs.length ∧ i = .int .i64 k ∧ wr = w.drewN q ∧ Same xs ys k) (fun i _ => xs.length - (intOf i).toNat)
    case atStart => exact ⟨0, 0, Nat.zero_le _, rfl, rfl, fun _ h => absurd h (Nat.not_lt_zero _)⟩
    case round =>
      obtain ⟨k, q, hk, rfl, rfl, hS⟩ := hrel
      clear hd
      by_cases hlt : k < xs.length
      · have hlt2 : k < ys.length := by omega
        have hz1 := strs_get xs k hlt
        have hz2 := strs_get ys k hlt2
        obtain ⟨b1, o1, rfl, hb1, hc1⟩ := hx (by intro e; rw [e] at hz1; cases hz1)
        obtain ⟨b2, o2, rfl, hb2, hc2⟩ := hy (by intro e; rw [e] at hz2; cases hz2)
        have c1 := hc1 k _ hz1
        have c2 := hc2 k _ hz2
        obtain ⟨x, hxv⟩ : ∃ x, x = xs[k] := ⟨_, rfl⟩
        obtain ⟨y, hyv⟩ : ∃ y, y = ys[k] := ⟨_, rfl⟩
        rw [← hxv] at c1
        rw [← hyv] at c2
        have hse := str_eq x y
        by_cases he : x = y
        · have hd : (x.toList == y.toList) = true := by rw [hse, decide_eq_true he]
          have HE : Hid (xs[k] = ys[k]) := by rw [← hxv, ← hyv]; exact he
          clear he hz1 hz2 hc1 hc2 hx hy hxv hyv hse
          go_wp2
          go_quiet (fail)
          go_wp2
          go_roundw
          case rel => exact ⟨k + 1, _, by omega, by go_num, rfl, hS.snoc hlt hlt2 HE.out⟩
          case measure => simp [intOf]; omega
        · have hd : (x.toList == y.toList) = false := by rw [hse, decide_eq_false he]
          have HE : Hid (¬ xs[k] = ys[k]) := by rw [← hxv, ← hyv]; exact he
          clear he hz1 hz2 hc1 hc2 hx hy hxv hyv hse
          go_wp2
          go_quiet (fail)
          go_wp2
          go_ret
          exact ⟨ret_bool (by symm; rw [decide_eq_false_iff_not]; exact ne_at HE.out), below_drewN (below_drewN (Below.refl _ _) _) _⟩
      · have : k = xs.length := by omega
        subst this
        go_wp2
        go_ret
        exact ⟨ret_bool (by symm; rw [decide_eq_true_iff]; exact hS.all Hl.out), below_drewN (Below.refl _ _) _⟩
  · have hd : ((xs.length : Int) != ys.length) = true := by simp; omega
    go_enter Tryd.func48, Tryd.ntmps48
    go_wp2
    go_ret
    exact ⟨ret_bool (by simp; intro e; exact hl (by rw [e])), Below.refl _ _⟩

def mkS (k : Int) (j : Nat) : Value := .string (mt (k + j))
set_option maxRecDepth 100000 in
set_option maxHeartbeats 1000000 in
theorem markStringS_any (A : Option Addr) (n c : Nat) (zs : List Value) (k : Int) (base : Nat) (w : World) (ho : w.ownsRow base 9 1 (.slice A n c) n zs) (h0 : 0 ≤ k) (hk : k + n ≤ 4611686018427387904) :
    Calls Tryd.prog 54 #[.slice A n c, .int .i64 k] w (Marks w base 9 1 A n c k (mkS k)) := by
  go_enter Tryd.func54, Tryd.ntmps54
  go_wp2_with fail
  go_loopw [1, 5] (fun kk i wr => ∃ (j : Nat) (ys : List Value), j ≤ n ∧ i = .int .i64 j ∧ kk = .int .i64 (k + j) ∧ wr.ownsRow base 9 1 (.slice A n c) n ys ∧ Told ys (mkS k) j ∧ w.grownBy wr (Value.slice A n c).ownBlock) (fun _ i _ => n - (intOf i).toNat)
  case atStart => exact ⟨0, zs, Nat.zero_le _, rfl, by simp, ho, Told.zero _ _, grown_refl _ _⟩
  case round =>
    obtain ⟨j, ys, hj, rfl, rfl, hO, hT, hG⟩ := hrel
    by_cases hlt : j < n
    · obtain ⟨g, rfl, hbg, hlt'⟩ := own_some hO (by omega)
      have hys : j < ys.length := by have := hO.1; omega
      clear ho
      go_wp2_with fail
      refine (markText_any (k + j) _ (by omega) (by omega)).mono ?_
      rintro e u0 ⟨rfl, hU0⟩
      have hA0 := own_keep hO hU0 (Nat.le_refl _)
      have hG0 := grown_trans hG (grown_of_below hU0 _)
      obtain ⟨⟨v0, hv0⟩, hf0⟩ := own_cell hA0 (j := j) (by omega)
      have hB0 := hA0.stored j (mkS k j)
      have hT0 := hT.put hys
      have hK0 := grown_trans hG0 hB0.2
      have hO0 := hB0.1
      clear hB0
      go_wp2_with fail
      go_roundw
      case rel => exact ⟨j + 1, _, by omega, by go_num, by go_num, hO0, hT0, hK0⟩
      case measure => simp [intOf]; omega
    · have : j = n := by omega
      subst this
      go_wp2
      go_ret
      have e := hT.all (j := j) (by have := hO.1; omega)
      exact ⟨ret_int (by simp), by rw [Nat.mul_one, ← e]; exact hO, hG⟩

set_option maxRecDepth 100000 in
set_option maxHeartbeats 8000000 in
theorem heldStringS_k (A : Option Addr) (n c : Nat) (k : Int) (w : World) (hr : Rd w A ((List.range (n * 1)).map (mkS k))) (h0 : 0 ≤ k) (hk : k + n ≤ 4611686018427387904) :
    Calls Tryd.prog 55 #[.slice A n c, .int .i64 k] w (Kept w (.int .i64 (k + (n * 1 : Nat)))) := by
  go_enter Tryd.func55, Tryd.ntmps55
  go_wp2_with fail
  go_loopw [1, 5] (fun kk i wr => ∃ (j : Nat), j ≤ n ∧ i = .int .i64 j ∧ kk = .int .i64 (k + j) ∧ Below w.heap.size w wr) (fun _ i _ => n - (intOf i).toNat)
  case atStart => exact ⟨0, Nat.zero_le _, rfl, by simp, Below.refl _ _⟩
  case round =>
    obtain ⟨j, hj, rfl, rfl, hW⟩ := hrel
    by_cases hlt : j < n
    · have z0 := range_map_get (mkS k) (n * 1) j (by omega)
      obtain ⟨b, o, rfl, hb, hc⟩ := (hr.keep hW) (by intro e; rw [e] at z0; cases z0)
      have c0 : wr.cell? ⟨b, o + j, none⟩ = some (.string (mt (k + j))) := hc j _ z0
      clear z0 hr hc
      obtain ⟨s0, hs0⟩ : ∃ s, s = mt (k + (j : Int)) := ⟨_, rfl⟩
      rw [← hs0] at c0
      have hcall0 := fun W => markText_any (k + (j : Int)) W (by omega) (by omega)
      rw [← hs0] at hcall0
      have Hs0 := Lib.hid hs0
      clear hs0
      have Hcall0 := Lib.hid hcall0
      clear hcall0
      have e0 : ∀ (W : World), Below wr.drew.heap.size wr.drew W → W.cell? ⟨b, o + j, none⟩ = some (.string s0) ∧ Below w.heap.size w W := fun W hW1 => ⟨(hW1.cell (p := ⟨b, o + j, none⟩) hb).trans c0, hW.drew.trans (hW1.mono hW.size)⟩
      have z0 := e0 _ (Below.refl _ _)
      have E0 := Lib.hid e0
      clear e0
      have Z0 := Lib.hid z0
      clear z0
      go_wp2_with fail
      go_region_held3 (fun w' => w'.cell? ⟨b, o + j, none⟩ = some (.string s0) ∧ Below w.heap.size w w') (first | exact Z0.out | exact E0.out _ hV0) ((refine (Hcall0.out _).mono ?_; rintro e u0 ⟨rfl, hV0⟩))
      have hY0 := hW.trans ((((Below.refl _ wr).drew).trans hV0).mono hW.size)
      clear c0 E0 Z0 Hcall0 hV0
      go_wp2_with fail
      go_roundw
      case rel => exact ⟨j + 1, by omega, by go_num, by go_num, hY0⟩
      case measure => simp [intOf]; omega
    · have : j = n := by omega
      subst this
      go_wp2
      go_ret
      exact ⟨ret_int (by simp), hW⟩

end Go.Proofs.YtgceabbeeobmgaaDoor
