/- Walks over the laws' helpers for slices of int: toIntS, eqIntS, markIntS, heldIntS. -/
import Derived.Test.YtnlagiopmkjmlaaOpen
namespace Go.Proofs.Ytnlagiopmkjmlaa
open Go.RowKit Go.Shelf

set_option maxHeartbeats 400000 in
theorem eqIntS_any (A B : Option Addr) (n m c d : Nat) (xs ys : List Int) (w : World) (hx : Rd w A (ints xs)) (hy : Rd w B (ints ys)) (hn : n = xs.length) (hm : m = ys.length) (hb : n ≤ 9223372036854775807) (hbm : m ≤ 9223372036854775807) :
    Calls Try.prog 51 #[.slice A n c, .slice B m d] w (Quiet w (.bool (decide (xs = ys)))) := by
  subst hn hm
  by_cases hl : xs.length = ys.length
  · have hd : ((xs.length : Int) != ys.length) = false := by simp [hl]
    have HL := Lib.hid hl
    have h1 : xs.length ≤ ys.length := by omega
    have h2 : ys.length ≤ xs.length := by omega
    clear hl
    go_enter Try.func51, Try.ntmps51
    go_wp2
    go_loopw [5] (fun i wr => ∃ (k q : Nat), k ≤ xs.length ∧ i = .int .i64 k ∧ wr = w.drewN q ∧ Same xs ys k) (fun i _ => xs.length - (intOf i).toNat)
    case atStart => exact ⟨0, 0, Nat.zero_le _, rfl, rfl, fun _ h => absurd h (Nat.not_lt_zero _)⟩
    case round =>
      obtain ⟨k, q, hk, rfl, rfl, hS⟩ := hrel
      clear hd
      by_cases hlt : k < xs.length
      · have hlt2 : k < ys.length := by have := HL.out; omega
        have hz1 := ints_get xs k hlt
        have hz2 := ints_get ys k hlt2
        obtain ⟨b1, o1, rfl, hb1, hc1⟩ := hx (by intro e; rw [e] at hz1; cases hz1)
        obtain ⟨b2, o2, rfl, hb2, hc2⟩ := hy (by intro e; rw [e] at hz2; cases hz2)
        have c1 := hc1 k _ hz1
        have c2 := hc2 k _ hz2
        by_cases he : xs[k] = ys[k]
        · have hd : (xs[k] != ys[k]) = false := by simp [he]
          have HE := Lib.hid he
          clear he hz1 hz2 hc1 hc2 hx hy
          go_wp2
          go_quiet (fail)
          go_wp2
          go_roundw
          case rel => exact ⟨k + 1, _, by omega, by go_num, rfl, hS.snoc hlt hlt2 HE.out⟩
          case measure => simp [intOf]; omega
        · have hd : (xs[k] != ys[k]) = true := by simp [he]
          have HE := Lib.hid he
          clear he hz1 hz2 hc1 hc2 hx hy
          go_wp2
          go_quiet (fail)
          go_wp2
          go_ret
          exact ⟨ret_bool (by symm; rw [decide_eq_false_iff_not]; exact ne_at HE.out), _, World.drewN_drewN _ _ _⟩
      · have : k = xs.length := by omega
        subst this
        go_wp2
        go_ret
        exact ⟨ret_bool (by symm; rw [decide_eq_true_iff]; exact hS.all HL.out), _, rfl⟩
  · have hd : ((xs.length : Int) != ys.length) = true := by simp; omega
    go_enter Try.func51, Try.ntmps51
    go_wp2
    go_ret
    exact ⟨ret_bool (by simp; intro e; exact hl (by rw [e])), 0, rfl⟩


def mkI (k : Int) (j : Nat) : Value := .int .i64 (k + j)

set_option maxHeartbeats 400000 in
theorem markIntS_any (A : Option Addr) (n c : Nat) (zs : List Value) (k : Int) (base : Nat) (w : World) (ho : w.ownsRow base 3 1 (.slice A n c) n zs) (h0 : 0 ≤ k) (hk : k + n ≤ 4611686018427387904) :
    Calls Try.prog 52 #[.slice A n c, .int .i64 k] w (Marks w base 3 1 A n c k (mkI k)) := by
  go_enter Try.func52, Try.ntmps52
  go_wp2
  go_loopw [1, 5] (fun kk i wr => ∃ (j : Nat) (ys : List Value), j ≤ n ∧ i = .int .i64 j ∧ kk = .int .i64 (k + j) ∧ wr.ownsRow base 3 1 (.slice A n c) n ys ∧ Told ys (mkI k) j ∧ w.grownBy wr (Value.slice A n c).ownBlock) (fun _ i _ => n - (intOf i).toNat)
  case atStart => exact ⟨0, zs, Nat.zero_le _, rfl, by simp, ho, Told.zero _ _, grown_refl _ _⟩
  case round =>
    obtain ⟨j, ys, hj, rfl, rfl, hO, hT, hG⟩ := hrel
    by_cases hlt : j < n
    · obtain ⟨g, rfl, hbg, hlt'⟩ := own_some hO (by omega)
      have hys : j < ys.length := by have := hO.1; omega
      have hst := hO.stored j (mkI k j)
      have hc : wr.cell? ⟨g, j, none⟩ = some ys[j] := by rw [hO.cellAt j (by omega)]; simp
      have hfr := hO.frozenAt j
      clear ho hO
      go_wp2
      go_roundw
      case rel => exact ⟨j + 1, _, by omega, by go_num, by go_num, hst.1, hT.put hys, grown_trans hG hst.2⟩
      case measure => simp [intOf]; omega
    · have : j = n := by omega
      subst this
      go_wp2
      go_ret
      have e := hT.all (j := j) (by have := hO.1; omega)
      exact ⟨ret_int (by simp), by rw [Nat.mul_one, ← e]; exact hO, hG⟩

set_option maxHeartbeats 400000 in
theorem heldIntS_any (A : Option Addr) (n c : Nat) (k : Int) (w : World) (hr : Rd w A ((List.range n).map (mkI k))) (h0 : 0 ≤ k) (hk : k + n ≤ 4611686018427387904) :
    Calls Try.prog 53 #[.slice A n c, .int .i64 k] w (fun e w' => e = .returned (.int .i64 (k + n)) ∧ w = w') := by
  go_enter Try.func53, Try.ntmps53
  go_wp2
  go_loop [1, 5] (fun kk i => ∃ (j : Nat), j ≤ n ∧ i = .int .i64 j ∧ kk = .int .i64 (k + j)) (fun _ i => n - (intOf i).toNat)
  case atStart => exact ⟨0, Nat.zero_le _, rfl, by simp⟩
  case round =>
    obtain ⟨j, hj, rfl, rfl⟩ := hrel
    by_cases hlt : j < n
    · have hz := range_map_get (mkI k) n j hlt
      obtain ⟨b, o, rfl, hb, hc⟩ := hr (by intro e; rw [e] at hz; cases hz)
      have c1 : w.cell? ⟨b, o + j, none⟩ = some (.int .i64 (k + j)) := hc j _ hz
      clear hc hr hz
      go_wp2
      go_round
      case rel => exact ⟨j + 1, by omega, by go_num, by go_num⟩
      case measure => simp [intOf]; omega
    · have : j = n := by omega
      subst this
      go_wp2
      go_ret
      exact ⟨rfl, rfl⟩

theorem eqIntS_k (A : Option Addr) (n c : Nat) (xs : List Int) (B : Option Addr) (m d : Nat) (ys : List Int) (w : World) (hx : Rd w A (ints xs)) (hn : n = xs.length) (hb : n ≤ 9223372036854775807) (hy : Rd w B (ints ys)) (hm : m = ys.length) (hbm : m ≤ 9223372036854775807) :
    Calls Try.prog 51 #[.slice A n c, .slice B m d] w (Kept w (.bool (decide (xs = ys)))) :=
  (eqIntS_any A B n m c d xs ys w hx hy hn hm hb hbm).mono fun _ _ ⟨he, _, hq⟩ => ⟨he, hq ▸ below_drewN (Below.refl _ _) _⟩
theorem heldIntS_k (A : Option Addr) (n c : Nat) (k : Int) (w : World) (hr : Rd w A ((List.range (n * 1)).map (mkI k))) (h0 : 0 ≤ k) (hk : k + n ≤ 4611686018427387904) :
    Calls Try.prog 53 #[.slice A n c, .int .i64 k] w (Kept w (.int .i64 (k + (n * 1 : Nat)))) :=
  (heldIntS_any A n c k w (by simpa using hr) h0 hk).mono fun _ _ ⟨he, hw⟩ => ⟨by rw [he]; simp, hw ▸ Below.refl _ _⟩

end Go.Proofs.Ytnlagiopmkjmlaa
