/- The reference's words drawn from a source: l02Draw, MakeWord. -/


import Derived.Test.YtgceabbeeobmgaaDoorMkB
import Derived.Test.YtgceabbeeobmgaaDoorLetter
namespace Go.Proofs.YtgceabbeeobmgaaDoor

open Go.RowKit Go.Shelf

theorem lettersOk_app {k : Int} {s t : ByteArray} (h1 : lettersOk k s = true) (h2 : lettersOk k t = true) : lettersOk k (s ++ t) = true := by
  unfold lettersOk at *
  rw [ByteArray.data_append, Array.toList_append, List.all_append, h1, h2]
  rfl
theorem lettersOk_letter {k : Int} {x : Nat} (h : (x : Int) < k) (hk : k ≤ 4) : lettersOk k (letter (x : Int)) = true := by
  have h3 : x = 0 ∨ x = 1 ∨ x = 2 ∨ x = 3 := by omega
  unfold lettersOk
  rcases h3 with rfl | rfl | rfl | rfl <;> (show (inB _ 97 (96 + k) && true) = true; unfold inB; rw [Bool.and_true, Bool.and_eq_true]; exact ⟨by decide, decide_eq_true (by show (_ : Int) ≤ _; first | (show (97 : Int) ≤ _; omega) | (show (98 : Int) ≤ _; omega) | (show (99 : Int) ≤ _; omega) | (show (100 : Int) ≤ _; omega))⟩)
def WordMade (P : Nat) (A : Option Addr) (n c : Nat) (k : Int) (m : Nat) (w : World) (e : Ending) (w' : World) : Prop := ∃ s : ByteArray, s.size ≤ m ∧ lettersOk k s = true ∧ e = .returned (.string s) ∧ Cur w' P A n c ∧ w.grownBy w' (some P)
theorem gb_alloc (w : World) (o : Obj) (r : Option Nat) : w.grownBy (w.alloc o) r := ⟨rfl, rfl, rfl, by simp, fun k hk _ => Below.heap_alloc w o k hk⟩

set_option maxRecDepth 100000 in
set_option maxHeartbeats 2000000 in
theorem l02Draw_any (P : Nat) (A : Option Addr) (n c : Nat) (zs : List Int) (k m : Nat) (w : World) (hC : Cur w P A n c) (hr : Rd w A (u8c zs)) (hn : n = zs.length) (hb : n ≤ 1048576) (hz : ∀ z ∈ zs, 0 ≤ z ∧ z ≤ 255) (hA : u8c zs ≠ [] → ∀ a, A = some a → a.block ≠ P) (h1 : 1 ≤ k) (h2 : k ≤ 4) (hm : m ≤ 200) :
    Calls Tryd.prog 28 #[.pointer (some ⟨P, 0, none⟩), .int .i64 k, .int .i64 m] w (WordMade P A n c k m w) := by
  have hbl := l01Below_any P A n c zs (m + 1) w hC hr hn hb hz hA (by omega) (by omega)
  rw [show ((m + 1 : Nat) : Int) = (m : Int) + 1 by omega] at hbl
  have Hr := Lib.hid hr
  clear hr
  have Hn := Lib.hid hn
  clear hn
  have Hz := Lib.hid hz
  clear hz
  have HA := Lib.hid hA
  clear hA
  have HC := Lib.hid hC
  clear hC
  have Hbl := Lib.hid hbl
  clear hbl
  go_enter Tryd.func28, Tryd.ntmps28
  go_wp2_with fail
  with_reducible refine Hbl.out.mono ?_
  rintro e w1 ⟨x, hx, rfl, hC1, hG1⟩
  have hxm : x ≤ m := by omega
  clear hx
  have HC1 := Lib.hid hC1
  clear hC1
  have HG1 := Lib.hid hG1
  clear hG1
  go_wp2_with fail
  go_loopw [7, 8] (fun s i wr => ∃ (j : Nat) (cur : ByteArray), s = .string cur ∧ i = .int .i64 j ∧ j ≤ x ∧ cur.size + j = x ∧ Hid (lettersOk k cur = true) ∧ Cur wr P A n c ∧ w.grownBy wr (some P)) (fun _ i _ => (intOf i).toNat)
  case atStart => exact ⟨x, ⟨#[]⟩, rfl, rfl, Nat.le_refl _, by show (0 : Nat) + x = x; omega, Lib.hid rfl, HC1.out, HG1.out⟩
  case round =>
    clear HC1 HG1
    obtain ⟨j, cur, rfl, rfl, hj, hcz, HL, hC, hG⟩ := hrel
    by_cases hlt : 0 < j
    · skip
      have HC := Lib.hid hC
      clear hC
      have HG := Lib.hid hG
      clear hG
      go_wp2_with fail
      with_reducible refine (l01Below_any P A n c zs k _ HC.out (Hr.out.gb HG.out HA.out) Hn.out hb Hz.out HA.out h1 (by omega)).mono ?_
      rintro e w2 ⟨y, hy, rfl, hC2, hG2⟩
      have hcv := conv_byte w2 (97 + y)
      rw [show (⟨#[UInt8.ofNat (97 + (y : Int)).toNat]⟩ : ByteArray) = letter (y : Int) from rfl] at hcv
      obtain ⟨d, hd⟩ : ∃ d, d = letter (y : Int) := ⟨_, rfl⟩
      rw [← hd] at hcv
      have hdz : d.size = 1 := by rw [hd]; rfl
      have hL2 : lettersOk k (cur ++ d) = true := lettersOk_app HL.out (by rw [hd]; exact lettersOk_letter (by omega) (by omega))
      have hC3 := hC2.below ((Below.refl _ _).alloc (Nat.le_refl _) (.cells #[.int .u8 (97 + (y : Int))] 5))
      have hG3 := gb_trans HG.out (gb_trans hG2 (gb_alloc w2 (.cells #[.int .u8 (97 + (y : Int))] 5) (some P)))
      clear HC HG hC2 hG2
      have Hd := Lib.hid hd
      clear hd
      have HL2 := Lib.hid hL2
      clear hL2
      have HC3 := Lib.hid hC3
      clear hC3
      have HG3 := Lib.hid hG3
      clear hG3
      go_wp2_with fail
      go_roundw
      case rel => exact ⟨j - 1, cur ++ d, rfl, by go_num, by omega, by rw [ByteArray.size_append, hdz]; omega, HL2, HC3.out, HG3.out⟩
      case measure => simp [intOf] <;> omega
    · have hj0 : j = 0 := by omega
      subst hj0
      go_wp2_with fail
      go_ret
      exact ⟨cur, by omega, HL.out, rfl, hC, hG⟩

set_option maxRecDepth 100000 in
set_option maxHeartbeats 2000000 in
theorem makeWord_any (A : Option Addr) (n c : Nat) (zs : List Int) (p k m : Nat) (w : World) (hr : Rd w A (u8c zs)) (hn : n = zs.length) (hb : n ≤ 1048576) (hz : ∀ z ∈ zs, 0 ≤ z ∧ z ≤ 255) (hp : p ≤ 1000) (h1 : 1 ≤ k) (h2 : k ≤ 4) (hm : m ≤ 16) :
    Calls Tryd.prog 7 #[.slice A n c, .int .i64 p, .int .i64 k, .int .i64 m] w (fun e w' => ∃ s : ByteArray, s.size ≤ m ∧ lettersOk k s = true ∧ e = .returned (.string s) ∧ Below w.heap.size w w') := by
  have hne : u8c zs ≠ [] → ∀ a, A = some a → a.block ≠ w.heap.size := fun hx => rd_ne hr hx (Nat.le_refl _)
  have Hr := Lib.hid hr
  clear hr
  have Hn := Lib.hid hn
  clear hn
  have Hz := Lib.hid hz
  clear hz
  have Hne := Lib.hid hne
  clear hne
  go_enter Tryd.func7, Tryd.ntmps7
  go_wp2_with fail
  with_reducible refine (l31New_any A n c zs p _ Hr.out Hn.out hb Hz.out hp).mono ?_
  rintro e w1 ⟨rfl, hC1, hW1⟩
  have hmn1 : (if (4 : Int) < (k : Int) then (4 : Int) else (k : Int)) = (k : Int) := if_neg (by omega)
  have hmn2 : (if (1 : Int) < (k : Int) then (k : Int) else 1) = (k : Int) := by split <;> omega
  have hmn3 : (if (16 : Int) < (m : Int) then (16 : Int) else (m : Int)) = (m : Int) := if_neg (by omega)
  have hmn4 : (if (0 : Int) < (m : Int) then (m : Int) else 0) = (m : Int) := by split <;> omega
  have hmn5 : (if 0 < m then (m : Int) else 0) = (m : Int) := by split <;> omega
  have HC1 := Lib.hid hC1
  clear hC1
  have HW1 := Lib.hid hW1
  clear hW1
  go_wp2_with fail
  with_reducible refine (l02Draw_any w.heap.size A n c zs k m _ HC1.out (Hr.out.keep HW1.out) Hn.out hb Hz.out Hne.out h1 h2 (by omega)).mono ?_
  rintro e w2 ⟨s, hs, hL, rfl, hC2, hG2⟩
  have hW2 := HW1.out.trans (gb_below hG2 HW1.out.size (Nat.le_refl _))
  clear hG2
  have HC2 := Lib.hid hC2
  clear hC2
  have HW2 := Lib.hid hW2
  clear hW2
  have HL := Lib.hid hL
  clear hL
  go_wp2_with fail
  go_ret
  exact ⟨s, hs, HL.out, rfl, HW2.out⟩

end Go.Proofs.YtgceabbeeobmgaaDoor
