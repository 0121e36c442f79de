/- Walks over the laws' helpers for slices of strings: toStringS, eqStringS, markStringS, heldStringS, szStringS. -/
import Derived.Test.YtgceabbeeobmgaaDoorMark
import Derived.Test.YtgceabbeeobmgaaDoorApp
namespace Go.Proofs.YtgceabbeeobmgaaDoor
open Go.RowKit Go.Shelf

def strs (ss : List ByteArray) : List Value := ss.map Value.string
theorem strs_get (ss : List ByteArray) (k : Nat) (h : k < ss.length) : (strs ss)[k]? = some (.string ss[k]) := by simp [strs, h]
theorem strs_len (ss : List ByteArray) : (strs ss).length = ss.length := by simp [strs]
theorem info_str : (Tryd.prog.info? 9).map (fun i => (i.zero, i.size, i.bytes)) = some (some (.string ⟨#[]⟩), 1, 16) := by kernel_rfl
/-- A slice of strings that came in. -/
def OpenSlStrs (w : World) (A : Option Addr) (n : Nat) (ss : List ByteArray) : Prop := Rd w A (strs ss) ∧ n = ss.length ∧ n ≤ maxLen ∧ ∀ s ∈ ss, s.size ≤ maxLen

set_option maxHeartbeats 400000 in
theorem toStringS_any (A : Option Addr) (n c : Nat) (zs : List ByteArray) (w : World) (hr : Rd w A (strs zs)) (hn : n = zs.length) (hb : n ≤ 1048576) (_ : ∀ s ∈ zs, s.size ≤ 1048576) :
    Calls Tryd.prog 43 #[.slice A n c] w (MadeSl w 9 1 n (strs zs)) := by
  subst hn
  obtain ⟨i0, hi, hz0, hz1, hz2⟩ := info_parts info_str
  have hmk := fun (W : World) => run_make (P := Tryd.prog) W 29 9 i0 (.string ⟨#[]⟩) Tryd.underlying29 hi hz0 .i64 .i64 zs.length zs.length (by omega) (by omega) (by rw [hz2]; omega) (by omega)
  go_enter Tryd.func43, Tryd.ntmps43
  go_wp2
  generalize hM : madeCells #[Value.string ⟨#[]⟩] _ = M
  have hMs : M.size = (strs zs).length := by rw [← hM, size_madeCells, strs_len]
  go_loopw [4] (fun i wr => ∃ (k : Nat) (cur : Array Value), k ≤ zs.length ∧ i = .int .i64 k ∧ Bk wr w.heap.size 9 cur ∧ Pre cur (strs zs) k ∧ Below w.heap.size w wr) (fun i _ => zs.length - (intOf i).toNat)
  case atStart => exact ⟨0, M, Nat.zero_le _, rfl, Bk.new _ _ _, Pre.zero hMs, (Below.refl _ _).alloc (Nat.le_refl _) _⟩
  case round =>
    obtain ⟨k, cur, hk, rfl, hB, hP, hW⟩ := hrel
    clear hM hmk
    by_cases hlt : k < zs.length
    · have hz := strs_get zs k hlt
      obtain ⟨b, off, rfl, hbl, hcell⟩ := hr (by intro e; rw [e] at hz; cases hz)
      have hc := (hW.cell (p := ⟨b, off + k, none⟩) hbl).trans (hcell k _ hz)
      have hfr := hB.free k
      have hold : wr.cell? ⟨w.heap.size, k, none⟩ = some (cur[k]'(by rw [hP.1, strs_len]; exact hlt)) := by rw [hB.cell]; simp
      go_wp2
      go_roundw
      case rel => exact ⟨k + 1, _, by omega, by go_num, hB.put k _, hP.put hz, hW.setCell (Nat.le_refl _) _⟩
      case measure => simp [intOf]; omega
    · have : k = zs.length := by omega
      subst this
      go_wp2
      go_ret
      exact ⟨_, _, rfl, own_of_pre hB hP (strs_len zs).symm (Nat.le_refl _) (by simp [strs_len]) (by unfold maxLen; omega), hW⟩

set_option maxRecDepth 100000 in
set_option maxHeartbeats 1000000 in
theorem eqStringS_k (A : Option Addr) (n c : Nat) (xs : List ByteArray) (B : Option Addr) (m d : Nat) (ys : List ByteArray) (w : World) (hx : Rd w A (strs xs)) (hn : n = xs.length) (hb : n ≤ 9223372036854775807) (hy : Rd w B (strs ys)) (hm : m = ys.length) (hbm : m ≤ 9223372036854775807) :
    Calls Tryd.prog 48 #[.slice A n c, .slice B m d] w (Kept w (.bool (decide (xs = ys)))) := by
  subst hn hm
  by_cases hl : xs.length = ys.length
  · have hd : ((xs.length : Int) != ys.length) = false := by simp [hl]
    have h1 : xs.length ≤ ys.length := by omega
    have h2 : ys.length ≤ xs.length := by omega
    have Hl := Lib.hid hl
    clear hl
    go_enter Tryd.func48, Tryd.ntmps48
    go_wp2
    go_loopw [5] (fun i wr => ∃ (k q : Nat), k ≤ xs.length ∧ i = .int .i64 k ∧ wr = w.drewN q ∧ Same xs ys k) (fun i _ => xs.length - (intOf i).toNat)
    case atStart => exact ⟨0, 0, Nat.zero_le _, rfl, rfl, fun _ h => absurd h (Nat.not_lt_zero _)⟩
    case round =>
      obtain ⟨k, q, hk, rfl, rfl, hS⟩ := hrel
      clear hd
      by_cases hlt : k < xs.length
      · have hlt2 : k < ys.length := by omega
        have hz1 := strs_get xs k hlt
        have hz2 := strs_get ys k hlt2
        obtain ⟨b1, o1, rfl, hb1, hc1⟩ := hx (by intro e; rw [e] at hz1; cases hz1)
        obtain ⟨b2, o2, rfl, hb2, hc2⟩ := hy (by intro e; rw [e] at hz2; cases hz2)
        have c1 := hc1 k _ hz1
        have c2 := hc2 k _ hz2
        obtain ⟨x, hxv⟩ : ∃ x, x = xs[k] := ⟨_, rfl⟩
        obtain ⟨y, hyv⟩ : ∃ y, y = ys[k] := ⟨_, rfl⟩
        rw [← hxv] at c1
        rw [← hyv] at c2
        have hse := str_eq x y
        by_cases he : x = y
        · have hd : (x.toList == y.toList) = true := by rw [hse, decide_eq_true he]
          have HE : Hid (xs[k] = ys[k]) := by rw [← hxv, ← hyv]; exact he
          clear he hz1 hz2 hc1 hc2 hx hy hxv hyv hse
          go_wp2
          go_quiet (fail)
          go_wp2
          go_roundw
          case rel => exact ⟨k + 1, _, by omega, by go_num, rfl, hS.snoc hlt hlt2 HE.out⟩
          case measure => simp [intOf]; omega
        · have hd : (x.toList == y.toList) = false := by rw [hse, decide_eq_false he]
          have HE : Hid (¬ xs[k] = ys[k]) := by rw [← hxv, ← hyv]; exact he
          clear he hz1 hz2 hc1 hc2 hx hy hxv hyv hse
          go_wp2
          go_quiet (fail)
          go_wp2
          go_ret
          exact ⟨ret_bool (by symm; rw [decide_eq_false_iff_not]; exact ne_at HE.out), below_drewN (below_drewN (Below.refl _ _) _) _⟩
      · have : k = xs.length := by omega
        subst this
        go_wp2
        go_ret
        exact ⟨ret_bool (by symm; rw [decide_eq_true_iff]; exact hS.all Hl.out), below_drewN (Below.refl _ _) _⟩
  · have hd : ((xs.length : Int) != ys.length) = true := by simp; omega
    go_enter Tryd.func48, Tryd.ntmps48
    go_wp2
    go_ret
    exact ⟨ret_bool (by simp; intro e; exact hl (by rw [e])), Below.refl _ _⟩

def totString (xs : List ByteArray) : Nat := xs.length + (xs.map ByteArray.size).sum
theorem totString_step (xs : List ByteArray) (k : Nat) (h : k < xs.length) : ((xs.take (k + 1)).map ByteArray.size).sum = ((xs.take k).map ByteArray.size).sum + xs[k].size := by
  rw [List.take_succ_eq_append_getElem h, List.map_append, List.sum_append]
  simp
theorem totString_le (xs : List ByteArray) (k : Nat) : ((xs.take k).map ByteArray.size).sum ≤ (xs.map ByteArray.size).sum := by
  conv => rhs; rw [← List.take_append_drop k xs, List.map_append, List.sum_append]
  omega
theorem tot_len_strs (xs : List ByteArray) : xs.length ≤ totString xs := by unfold totString; omega
theorem tot_all_strs (xs : List ByteArray) (h : totString xs ≤ 1048576) : ∀ s ∈ xs, s.size ≤ 1048576 := fun s hs => by
  have := mem_sum ByteArray.size xs s hs
  unfold totString at h
  omega

set_option maxRecDepth 100000 in
set_option maxHeartbeats 1000000 in
theorem szStringS_any (A : Option Addr) (n c : Nat) (xs : List ByteArray) (left : Int) (w : World) (hr : Rd w A (strs xs)) (hn : n = xs.length) (hm : n ≤ maxLen) (hs : ∀ x ∈ xs, x.size ≤ maxLen) (h0 : 0 ≤ left) (h1 : left ≤ 1048576) :
    Calls Tryd.prog 39 #[.slice A n c, .int .i64 left] w (Kept w (.int .i64 (szLeft left (totString xs : Nat)))) := by
  unfold maxLen at hm hs
  subst hn
  go_enter Tryd.func39, Tryd.ntmps39
  by_cases n0 : (left - xs.length : Int) < 0
  · go_wp2
    go_ret
    exact ⟨ret_int (by rw [szLeft, totString, if_pos (by omega)]), Below.refl _ _⟩
  · have n0' : (0 : Int) ≤ left - xs.length := by omega
    go_wp2_with fail
    go_loop [1, 5] (fun l i => ∃ (k S : Nat), k ≤ xs.length ∧ i = .int .i64 k ∧ l = .int .i64 (left - xs.length - S) ∧ 0 ≤ left - xs.length - S ∧ Hid (S = ((xs.take k).map ByteArray.size).sum)) (fun _ i => xs.length - (intOf i).toNat)
    case atStart => exact ⟨0, 0, Nat.zero_le _, rfl, by simp, by omega, by simp [Hid]⟩
    case round =>
      obtain ⟨k, S, hk, rfl, rfl, hnn, HS⟩ := hrel
      by_cases hlt : k < xs.length
      · have hz := strs_get xs k hlt
        obtain ⟨b, off, rfl, hbl, hc⟩ := hr (by intro e; rw [e] at hz; cases hz)
        have hsx := hs xs[k] (List.getElem_mem hlt)
        have hst := totString_step xs k hlt
        have hle := totString_le xs (k + 1)
        obtain ⟨x, hxv⟩ : ∃ x, x = xs[k] := ⟨_, rfl⟩
        rw [← hxv] at hsx hst hz
        have c1 := hc k _ hz
        have HT : Hid (S + x.size = ((xs.take (k + 1)).map ByteArray.size).sum) := by unfold Hid; rw [hst, HS.out]
        clear hst hz hc hr hs hxv
        have Hle := Lib.hid hle
        clear hle
        by_cases nk : (left - xs.length - S - x.size : Int) < 0
        · go_wp2
          go_ret
          exact ⟨ret_int (by have := Hle.out; rw [← HT.out] at this; rw [szLeft, totString, if_pos (by omega)]), Below.refl _ _⟩
        · have nk' : (0 : Int) ≤ left - xs.length - S - x.size := by omega
          go_wp2
          go_round
          case rel => exact ⟨k + 1, S + x.size, by omega, by go_num, by go_num, by omega, HT⟩
          case measure => simp [intOf]; omega
      · have : k = xs.length := by omega
        subst this
        go_wp2
        go_ret
        exact ⟨ret_int (by have := HS.out; rw [List.take_length] at this; rw [szLeft, totString, if_neg (by omega)]; omega), Below.refl _ _⟩

end Go.Proofs.YtgceabbeeobmgaaDoor
