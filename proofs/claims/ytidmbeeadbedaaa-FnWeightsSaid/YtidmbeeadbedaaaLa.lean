/- Walks over LeastApart (the program's and the reference's). -/
import Derived.Test.YtidmbeeadbedaaaWapI
namespace Go.Proofs.Ytidmbeeadbedaaa
open Go.RowKit Go.Shelf

/-- LeastApart, in plain words. -/
def laN (l : Int) (rs : List RuleT) (u v : ByteArray) : Int :=
  if waOk l rs 2 u v = true then 2 else if waOk l rs 3 u v = true then 3 else if waOk l rs 4 u v = true then 4 else if waOk l rs 5 u v = true then 5 else if waOk l rs 6 u v = true then 6 else 0
theorem la_found {l : Int} {rs : List RuleT} {u v : ByteArray} {i : Int} (h2 : 2 ≤ i) (h6 : i ≤ 6) (ha : ∀ y, 2 ≤ y → y < i → waOk l rs y u v = false) (hok : waOk l rs i u v = true) : laN l rs u v = i := by
  unfold laN
  obtain rfl | rfl | rfl | rfl | rfl : i = 2 ∨ i = 3 ∨ i = 4 ∨ i = 5 ∨ i = 6 := by omega
  · rw [if_pos hok]
  · rw [ha 2 (by omega) (by omega), if_neg (by simp), if_pos hok]
  · rw [ha 2 (by omega) (by omega), ha 3 (by omega) (by omega), if_neg (by simp), if_neg (by simp), if_pos hok]
  · rw [ha 2 (by omega) (by omega), ha 3 (by omega) (by omega), ha 4 (by omega) (by omega), if_neg (by simp), if_neg (by simp), if_neg (by simp), if_pos hok]
  · rw [ha 2 (by omega) (by omega), ha 3 (by omega) (by omega), ha 4 (by omega) (by omega), ha 5 (by omega) (by omega), if_neg (by simp), if_neg (by simp), if_neg (by simp), if_neg (by simp), if_pos hok]
theorem la_none {l : Int} {rs : List RuleT} {u v : ByteArray} (ha : ∀ y, 2 ≤ y → y < 7 → waOk l rs y u v = false) : laN l rs u v = 0 := by
  unfold laN
  rw [ha 2 (by omega) (by omega), ha 3 (by omega) (by omega), ha 4 (by omega) (by omega), ha 5 (by omega) (by omega), ha 6 (by omega) (by omega)]
  simp


set_option maxRecDepth 100000 in
set_option maxHeartbeats 2000000 in
theorem implLeastApart_any (l : Int) (A : Option Addr) (n c : Nat) (rs : List RuleT) (u v : ByteArray) (w : World) (hr : Rd w A (cellsRule rs)) (hn : n = rs.length) (hb : n ≤ 1048576) (hz : ∀ x ∈ rs, x.1.size ≤ 1048576 ∧ x.2.size ≤ 1048576) (hu : u.size ≤ 1048576) (hv : v.size ≤ 1048576) :
    Calls Try.prog 48 #[.agg #[.int .i64 l, .slice A n c], .string u, .string v] w (Kept w (.int .i64 (laN l rs u v))) := by
  have hW0 : Below w.heap.size w (w.alloc (.cells #[.int .i64 l, .slice A n c] 25)) := (Below.refl _ _).alloc (Nat.le_refl _) _
  have hS0 := Bk.new w 25 #[.int .i64 l, .slice A n c]
  have Hr := Lib.hid hr
  clear hr
  have Hn := Lib.hid hn
  clear hn
  have Hz := Lib.hid hz
  clear hz
  have HW0 := Lib.hid hW0
  clear hW0
  have HS0 := Lib.hid hS0
  clear hS0
  go_enter Try.func48, Try.ntmps48
  go_wp2_with fail
  go_loopw [7] (fun x wr => ∃ (i : Int), x = .int .i64 i ∧ 2 ≤ i ∧ i ≤ 7 ∧ Hid (∀ y, 2 ≤ y → y < i → waOk l rs y u v = false) ∧ Bk wr w.heap.size 25 #[.int .i64 l, .slice A n c] ∧ Below w.heap.size w wr) (fun x _ => (7 - intOf x).toNat)
  case atStart => exact ⟨2, rfl, by omega, by omega, Lib.hid (fun y h1 h2 => by omega), HS0.out, HW0.out⟩
  case round =>
    clear HS0 HW0
    obtain ⟨i, rfl, h2, h7, HA, hS, hW⟩ := hrel
    by_cases hi : i ≤ 6
    · have s0 : wr.cell? ⟨w.heap.size, 0, none⟩ = some (.int .i64 l) := by rw [hS.cell]; rfl
      have s1 : wr.cell? ⟨w.heap.size, 1, none⟩ = some (.slice A n c) := by rw [hS.cell]; rfl
      have sl := hS.lt
      have hco := implWeightApart_any l A n c rs i u v wr (Hr.out.keep hW) Hn.out hb Hz.out hu hv
      have HS := Lib.hid hS
      clear hS
      have HW := Lib.hid hW
      clear hW
      have Hco := Lib.hid hco
      clear hco
      go_wp2_with fail
      refine Hco.out.mono ?_
      rintro e w2 ⟨A0, c0, rfl, hO, b2⟩
      have hS2 := HS.out.below b2 HS.out.lt
      have hW2 := HW.out.trans (b2.mono HW.out.size)
      clear HS HW Hco hO b2 s0 s1 sl
      obtain ⟨z, hz2⟩ : ∃ z, z = (waL l rs i u v).length := ⟨_, rfl⟩
      rw [← hz2]
      clear hz2
      obtain ⟨r, hrr⟩ : ∃ r', r' = (waOk l rs i u v) := ⟨_, rfl⟩
      rw [← hrr]
      have HR := Lib.hid hrr
      clear hrr
      cases r
      · have hA2 : ∀ y, 2 ≤ y → y < i + 1 → waOk l rs y u v = false := fun y h1 h3 => by
          by_cases hy : y = i
          · rw [hy]; exact HR.out.symm
          · exact HA.out y h1 (by omega)
        have HS2 := Lib.hid hS2
        clear hS2
        have HW2 := Lib.hid hW2
        clear hW2
        have HA2 := Lib.hid hA2
        clear hA2
        go_wp2_with fail
        go_roundw
        case rel => exact ⟨i + 1, rfl, by omega, by omega, HA2, HS2.out, HW2.out⟩
        case measure => simp [intOf] <;> omega
      · have hl := la_found h2 hi HA.out HR.out.symm
        have HS2 := Lib.hid hS2
        clear hS2
        have HW2 := Lib.hid hW2
        clear hW2
        have Hl := Lib.hid hl
        clear hl
        go_wp2_with fail
        go_ret
        exact ⟨ret_int Hl.out.symm, HW2.out⟩
    · have hie : i = 7 := by omega
      subst hie
      have hl := la_none HA.out
      have HS := Lib.hid hS
      clear hS
      have HW := Lib.hid hW
      clear hW
      have Hl := Lib.hid hl
      clear hl
      go_wp2_with fail
      go_ret
      exact ⟨ret_int Hl.out.symm, HW.out⟩

end Go.Proofs.Ytidmbeeadbedaaa
