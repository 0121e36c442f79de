/- Walks over the laws' helpers that copy arguments: toLink, toLinkS, szLink, szLinkS. -/
import Derived.Test.YtnlagiopmkjmlaaLink
namespace Go.Proofs.Ytnlagiopmkjmlaa
open Go.ChangeShapes Go.WideShapes Go.ChangeAt Go.RowKit Go.Shelf

set_option maxRecDepth 100000 in
set_option maxHeartbeats 400000 in
theorem toLink_any (x0 : Int) (x1 : Int) (x2 : Bool) (w : World) : Calls Try.prog 75 #[.agg #[.int .i64 x0, .int .i64 x1, .bool x2]] w (Kept w (.agg #[.int .i64 x0, .int .i64 x1, .bool x2])) := by
  go_enter Try.func75, Try.ntmps75
  go_wp2
  refine bodyPost_ret (v := .agg #[.int .i64 x0, .int .i64 x1, .bool x2]) (by simp [results, Try.results75, go_sem]) rfl ⟨rfl, ?_⟩
  exact ((((Below.refl _ _).alloc (Nat.le_refl _) _).alloc (by simp) _).alloc (by simp <;> omega) _)

set_option maxRecDepth 100000 in
set_option maxHeartbeats 1000000 in
theorem toLinkS_any (A : Option Addr) (n c : Nat) (xs : List LinkT) (w : World) (hr : Rd w A (cellsLink xs)) (hn : n = xs.length) (hb : n ≤ 1048576) :
    Calls Try.prog 32 #[.slice A n c] w (MadeSl w 76 3 n (cellsLink xs)) := by
  subst hn
  obtain ⟨i0, hi, hz0, hz1, hz2⟩ := info_parts info_Link
  have hmk := fun (W : World) => run_make (P := Try.prog) W 33 76 i0 _ Try.underlying33 hi hz0 .i64 .i64 xs.length xs.length (by omega) (by omega) (by rw [hz2]; omega) (by omega)
  have hmn : i0.size = 3 := hz1
  go_enter Try.func32, Try.ntmps32
  go_wp2_with fail
  generalize hM : madeCells #[.int .i64 0, .int .i64 0, .bool false] (xs.length * 3) = M
  have hMs : M.size = (cellsLink xs).length := by rw [← hM, size_madeCells, cellsLink_len]
  go_loopw [4] (fun i wr => ∃ (k : Nat) (cur : Array Value), k ≤ xs.length ∧ i = .int .i64 k ∧ Bk wr w.heap.size 76 cur ∧ Pre cur (cellsLink xs) (k * 3) ∧ Below w.heap.size w wr) (fun i _ => xs.length - (intOf i).toNat)
  case atStart => exact ⟨0, M, Nat.zero_le _, rfl, Bk.new _ _ _, by rw [Nat.zero_mul]; exact Pre.zero hMs, (Below.refl _ _).alloc (Nat.le_refl _) _⟩
  case round =>
    obtain ⟨k, cur, hk, rfl, hB, hP, hW⟩ := hrel
    clear hM hmk hmn hz0 hz1 hz2 hi
    by_cases hlt : k < xs.length
    · obtain ⟨b, off, rfl, hbl, p0, p1, p2⟩ := rd_Link (hr.keep hW) hlt
      have g0 := flat_get (enc := encLink) (m := 3) (fun _ => rfl) xs k 0 hlt (by omega)
      have g1 := flat_get (enc := encLink) (m := 3) (fun _ => rfl) xs k 1 hlt (by omega)
      have g2 := flat_get (enc := encLink) (m := 3) (fun _ => rfl) xs k 2 hlt (by omega)
      obtain ⟨⟨x0, x1, x2⟩, hxv⟩ : ∃ x, x = xs[k] := ⟨_, rfl⟩
      rw [← hxv] at p0 p1 p2 g0 g1 g2
      have hcs := hP.1
      rw [cellsLink_len] at hcs
      have hcl : xs.length * 3 ≤ cur.size := by omega
      clear hcs hr hxv
      go_wp2_with fail
      refine (toLink_any x0 x1 x2 _).mono ?_
      rintro e w1 ⟨rfl, hW1⟩
      have hB1 := hB.below hW1 hB.lt
      have hf0 := hB1.free (k * 3)
      have hc0 : w1.cell? ⟨w.heap.size, k * 3, none⟩ = some (cur[k * 3]'(by omega)) := by rw [hB1.cell]; simp
      have hf1 := hB1.free (k * 3 + 1)
      have hc1 : w1.cell? ⟨w.heap.size, k * 3 + 1, none⟩ = some (cur[k * 3 + 1]'(by omega)) := by rw [hB1.cell]; simp
      have hf2 := hB1.free (k * 3 + 2)
      have hc2 : w1.cell? ⟨w.heap.size, k * 3 + 2, none⟩ = some (cur[k * 3 + 2]'(by omega)) := by rw [hB1.cell]; simp
      go_wp2_with fail
      go_roundw
      case rel => exact ⟨k + 1, _, by omega, by go_num, (((hB1.put (k * 3) _).put (k * 3 + 1) _).put (k * 3 + 2) _), (by rw [Nat.add_mul]; exact (((hP.put g0).put g1).put g2)), ((((hW.trans (hW1.mono hW.size)).setCell (Nat.le_refl _) _).setCell (Nat.le_refl _) _).setCell (Nat.le_refl _) _)⟩
      case measure => simp [intOf]; omega
    · have : k = xs.length := by omega
      subst this
      go_wp2
      go_ret
      exact ⟨_, _, rfl, own_of_pre hB hP (cellsLink_len xs).symm (Nat.le_refl _) (cellsLink_len xs) (by unfold maxLen; omega), hW⟩

def totLink (xs : List LinkT) : Nat := xs.length

set_option maxRecDepth 100000 in
set_option maxHeartbeats 400000 in
theorem szLinkS_any (A : Option Addr) (n c : Nat) (xs : List LinkT) (left : Int) (w : World) (hn : n = xs.length) (hm : n ≤ maxLen) (h0 : 0 ≤ left) (h1 : left ≤ 1048576) :
    Calls Try.prog 30 #[.slice A n c, .int .i64 left] w (Kept w (.int .i64 (szLeft left (totLink xs : Nat)))) := by
  unfold maxLen at hm
  have Hn := Lib.hid hn
  clear hn
  go_enter Try.func30, Try.ntmps30
  by_cases n0 : (left - n : Int) < 0
  · go_wp2
    go_ret
    exact ⟨ret_int (by rw [szLeft, totLink, ← Hn.out, if_pos (by omega)]), Below.refl _ _⟩
  · go_wp2
    go_ret
    exact ⟨ret_int (by rw [szLeft, totLink, ← Hn.out, if_neg (by omega)]), Below.refl _ _⟩

theorem tot_len_links (xs : List LinkT) : xs.length ≤ totLink xs := by unfold totLink; omega
end Go.Proofs.Ytnlagiopmkjmlaa
