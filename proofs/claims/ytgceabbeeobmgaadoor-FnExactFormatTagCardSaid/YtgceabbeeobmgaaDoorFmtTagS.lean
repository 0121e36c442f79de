/- Walks over FormatTag of the reference, and FormatInt at a digit. -/
import Derived.Test.YtgceabbeeobmgaaDoorFmt
import Derived.Test.YtgceabbeeobmgaaDoorMark
import Derived.Test.YtgceabbeeobmgaaDoorApp
import Derived.Test.YtgceabbeeobmgaaDoorTagOk
import Derived.Test.YtgceabbeeobmgaaDoorApp5
namespace Go.Proofs.YtgceabbeeobmgaaDoor
open Go.RowKit Go.Shelf


def dig (n : Int) : ByteArray := ⟨#[UInt8.ofNat (48 + n).toNat]⟩
theorem dig_size (n : Int) : (dig n).size = 1 := rfl
def tagW (l : Int) (xs : List ByteArray) : List ByteArray := dig l :: xs.map dot
/-- FormatTag, in plain words. -/
def fmtT (l : Int) (xs : List ByteArray) : ByteArray := if tagOk l xs then jn (tagW l xs) spc else ⟨#[]⟩
theorem tagOk_out {l : Int} {xs : List ByteArray} (h : tagOk l xs = true) : 1 ≤ l ∧ l ≤ 4 ∧ 1 ≤ xs.length ∧ xs.length ≤ 4 ∧ ∀ x ∈ xs, wordOk xs.length x = true ∧ x.size ≤ 8 := by
  unfold tagOk at h
  simp only [Bool.and_eq_true, List.all_eq_true, decide_eq_true_eq] at h
  obtain ⟨⟨h1, h2⟩, h3⟩ := h
  unfold inB at h1 h2
  simp only [Bool.and_eq_true, decide_eq_true_eq] at h1 h2
  exact ⟨h1.1, h1.2, by omega, by omega, fun x hx => ⟨(h3 x hx).1, (h3 x hx).2⟩⟩

set_option maxRecDepth 100000 in
set_option maxHeartbeats 1000000 in
theorem specDigit_any (x : Int) (w : World) (h0 : 0 ≤ x) (h9 : x ≤ 9) : Calls Tryd.prog 41 #[.int .i64 x] w (Kept w (.string (dig x))) := by
  have hcv := conv_byte w (48 + x)
  rw [show (⟨#[UInt8.ofNat (48 + x).toNat]⟩ : ByteArray) = dig x from rfl] at hcv
  have hn0 : ¬ x < 0 := by omega
  have hn9 : ¬ 9 < x := by omega
  have hsz := dig_size x
  go_enter Tryd.func41, Tryd.ntmps41
  go_wp2_with fail
  refine wp_loop_rounds 1 ?_
  rw [rounds_succ]
  go_wp2_with fail
  go_ret
  exact ⟨by first | rfl | (rw [show dig x ++ (⟨#[]⟩ : ByteArray) = dig x from by apply ba_eq; simp]), (Below.refl _ _).alloc (Nat.le_refl _) _⟩

set_option maxRecDepth 100000 in
set_option maxHeartbeats 2000000 in
theorem specFormatTag_any (l : Int) (A : Option Addr) (n c : Nat) (xs : List ByteArray) (w : World) (hr : Rd w A (strs xs)) (hn : n = xs.length) (hb : n ≤ 1048576) (hz : ∀ x ∈ xs, x.size ≤ 1048576) :
    Calls Tryd.prog 18 #[.agg #[.int .i64 l, .slice A n c]] w (Kept w (.string (fmtT l xs))) := by
  have hW0 : Below w.heap.size w (w.alloc (.cells #[.int .i64 l, .slice A n c] 42)) := (Below.refl _ _).alloc (Nat.le_refl _) _
  have hS0 := Bk.new w 42 #[.int .i64 l, .slice A n c]
  have Hr := Lib.hid hr
  clear hr
  have Hn := Lib.hid hn
  clear hn
  have Hz := Lib.hid hz
  clear hz
  go_enter Tryd.func18, Tryd.ntmps18
  go_wp2_with fail
  with_reducible refine (specTagOk_any l A n c xs _ (Hr.out.keep hW0) Hn.out hb Hz.out).mono ?_
  rintro e w1 ⟨rfl, b1⟩
  have hW1 := hW0.trans (b1.mono hW0.size)
  have hS1 := hS0.below b1 hS0.lt
  have s0_1 : w1.cell? ⟨w.heap.size, 0, none⟩ = some (.int .i64 l) := by rw [hS1.cell]; rfl
  have s1_1 : w1.cell? ⟨w.heap.size, 1, none⟩ = some (.slice A n c) := by rw [hS1.cell]; rfl
  have sl_1 := hS1.lt
  clear b1
  obtain ⟨r1, hrr⟩ : ∃ r', r' = (tagOk l xs) := ⟨_, rfl⟩
  rw [← hrr]
  have H1 := Lib.hid hrr
  clear hrr
  cases r1
  · have e1 : fmtT l xs = ⟨#[]⟩ := by rw [fmtT, ← H1.out]; rfl
    have E1 := Lib.hid e1
    clear e1
    go_wp2_with fail
    go_ret
    rw [E1.out]
    exact ⟨rfl, hW1⟩
  have e1 : fmtT l xs = jn (tagW l xs) spc := by rw [fmtT, ← H1.out]; rfl
  obtain ⟨hl1, hl4, hx1, hx4, hxw⟩ := tagOk_out H1.out.symm
  have hn4 : n ≤ 4 := by rw [Hn.out]; exact hx4
  have E1 := Lib.hid e1
  clear e1
  have Hxw := Lib.hid hxw
  clear hxw
  go_wp2_with fail
  with_reducible refine (specDigit_any l _ (by omega) (by omega)).mono ?_
  rintro e w2 ⟨rfl, b2⟩
  have hW2 := hW1.trans (b2.mono hW1.size)
  have hS2 := hS1.below b2 hS1.lt
  have s0_2 : w2.cell? ⟨w.heap.size, 0, none⟩ = some (.int .i64 l) := by rw [hS2.cell]; rfl
  have s1_2 : w2.cell? ⟨w.heap.size, 1, none⟩ = some (.slice A n c) := by rw [hS2.cell]; rfl
  have sl_2 := hS2.lt
  clear b2
  have hR2 := Hr.out.keep hW2
  obtain ⟨ds, hds⟩ : ∃ d, d = dig l := ⟨_, rfl⟩
  have hdz : ds.size = 1 := by rw [hds]; exact dig_size l
  rw [← hds]
  have Hds := Lib.hid hds
  clear hds
  have HR2 := Lib.hid hR2
  clear hR2
  go_wp2_with fail
  go_loop [3, 15] (fun v i => ∃ (j : Nat) (cur : ByteArray), j ≤ n ∧ v = .string cur ∧ i = .int .i64 j ∧ Hid (cur = jn (ds :: (xs.take j).map dot) spc) ∧ cur.size ≤ 1 + 10 * j) (fun _ i => n - (intOf i).toNat)
  case atStart => exact ⟨0, ds, Nat.zero_le _, rfl, rfl, (jn_one ds spc).symm, by omega⟩
  case round =>
    obtain ⟨j, cur, hj, rfl, rfl, HC, hcz⟩ := hrel
    by_cases hlt : j < n
    · have hj2 : j < xs.length := by rw [← Hn.out]; exact hlt
      obtain ⟨b, o, rfl, hbl, p0⟩ := rd_StrG HR2.out hj2
      obtain ⟨x, hx⟩ : ∃ x, x = xs[j] := ⟨_, rfl⟩
      have hxz : x.size ≤ 8 := by rw [hx]; exact (Hxw.out _ (List.getElem_mem hj2)).2
      have htk : xs.take (j + 1) = xs.take j ++ [x] := by rw [hx]; exact List.take_succ_eq_append_getElem hj2
      rw [← hx] at p0
      obtain ⟨dx, hdx⟩ : ∃ d, d = dot x := ⟨_, rfl⟩
      have hdxz : dx.size ≤ 8 := by rw [hdx]; exact dot_size hxz (by omega)
      have hD : ∀ W, Calls Tryd.prog 42 #[.string x] W (fun e w' => e = .returned (.string dx) ∧ w' = W) := fun W => by rw [hdx]; exact specDot_any x W
      have hnx : (cur ++ spc) ++ dx = jn (ds :: (xs.take (j + 1)).map dot) spc := by
        rw [htk, List.map_append, ← List.cons_append, show List.map dot [x] = [dx] from by rw [hdx]; rfl, jn_snoc (by simp), ← HC.out]
      have hs1 : (cur ++ (⟨#[32]⟩ : ByteArray)).size = cur.size + 1 := by rw [ByteArray.size_append]; rfl
      have hs2 : ((cur ++ (⟨#[32]⟩ : ByteArray)) ++ dx).size ≤ 1 + 10 * (j + 1) := by rw [ByteArray.size_append, hs1]; omega
      have Hx := Lib.hid hx
      clear hx
      have Hdx := Lib.hid hdx
      clear hdx
      have HD := Lib.hid hD
      clear hD
      have Htk := Lib.hid htk
      clear htk
      have Hnx := Lib.hid hnx
      clear hnx
      have Hs2 := Lib.hid hs2
      clear hs2
      go_wp2_with fail
      refine (HD.out _).mono ?_
      rintro e w' ⟨rfl, rfl⟩
      go_wp2_with fail
      go_round
      case rel => exact ⟨j + 1, (cur ++ (⟨#[32]⟩ : ByteArray)) ++ dx, by omega, rfl, by go_num, Hnx, Hs2.out⟩
      case measure => simp [intOf] <;> omega
    · have : j = n := by omega
      subst this
      have hT : xs.take j = xs := List.take_of_length_le (by rw [← Hn.out]; exact Nat.le_refl _)
      rw [hT] at HC
      go_wp2_with fail
      go_ret
      rw [E1.out]
      exact ⟨by rw [HC.out, Hds.out]; rfl, hW2⟩

end Go.Proofs.YtgceabbeeobmgaaDoor
