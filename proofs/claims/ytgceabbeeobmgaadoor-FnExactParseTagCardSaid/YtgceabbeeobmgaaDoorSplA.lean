/- Walk over SplitAny of the reference at one blank: the text cut at its blanks. -/



import Derived.Test.YtgceabbeeobmgaaDoorSplP
import Derived.Test.YtgceabbeeobmgaaDoorApp5
import Derived.Test.YtgceabbeeobmgaaDoorWord
namespace Go.Proofs.YtgceabbeeobmgaaDoor

open Go.RowKit Go.Shelf

theorem ext_toBA (s : ByteArray) (f i : Nat) : s.extract f i = toBA ((s.data.toList.take i).drop f) := by
  apply ba_eq
  show (s.extract f i).data.toList = ((s.data.toList.take i).drop f).toArray.toList
  rw [ByteArray.data_extract, Array.toList_extract, List.extract_eq_take_drop, List.drop_take]
def strB (A : List (List UInt8)) : List Value := strs (A.map toBA)
theorem strB_snoc (A : List (List UInt8)) (x : List UInt8) : strB (A ++ [x]) = strB A ++ [.string (toBA x)] := by simp [strB, strs]

set_option maxRecDepth 100000 in
set_option maxHeartbeats 4000000 in
theorem specSplit_any (s : ByteArray) (w : World) (hs : s.size ≤ 1048576) :
    Calls Tryd.prog 49 #[.string s, .string ⟨#[32]⟩] w (MadeSl w 9 1 (splW s).length (strs (splW s))) := by
  have hO0 := own_of_bk (base := w.heap.size) (m := 1) (n := 0) (Bk.new w 9 #[]) (Nat.le_refl _) rfl (by unfold maxLen; omega)
  have hW0 : Below w.heap.size w (w.alloc (.cells #[] 9)) := (Below.refl _ _).alloc (Nat.le_refl _) _
  obtain ⟨sp, hsp⟩ : ∃ p, p = (⟨#[32]⟩ : ByteArray) := ⟨_, rfl⟩
  have hsz : sp.size = 1 := by rw [hsp]; rfl
  have hsv : ∀ h : 0 < sp.size, (sp[0]'h).toNat = 32 := by subst hsp; intro h; rfl
  rw [← hsp]
  obtain ⟨cs, hcs⟩ : ∃ c, c = s.data.toList := ⟨_, rfl⟩
  have hcl : cs.length = s.size := by rw [hcs]; exact bytes_len s
  have HO0 := Lib.hid hO0
  clear hO0
  have HW0 := Lib.hid hW0
  clear hW0
  have Hcs := Lib.hid hcs
  clear hcs
  have Hsp := Lib.hid hsp
  clear hsp
  go_enter Tryd.func49, Tryd.ntmps49
  go_wp2_with fail
  go_loopw [5, 6, 7] (fun v f i wr => ∃ (j p z : Nat) (B : Option Addr) (d : Nat) (A : List (List UInt8)), v = .slice B z d ∧ f = .int .i64 p ∧ i = .int .i64 j ∧ j ≤ s.size ∧ p ≤ j ∧ z ≤ j ∧ Hid (z = A.length) ∧ Hid (spl (cs.take j) = A ++ [(cs.take j).drop p]) ∧ wr.ownsRow w.heap.size 9 1 (.slice B z d) z (strB A) ∧ Below w.heap.size w wr) (fun _ _ i _ => s.size - (intOf i).toNat)
  case atStart => exact ⟨0, 0, 0, some ⟨w.heap.size, 0, none⟩, 0, [], rfl, rfl, rfl, Nat.zero_le _, Nat.le_refl _, Nat.le_refl _, Lib.hid rfl, Lib.hid (by simp [spl]), HO0.out, HW0.out⟩
  case round =>
    clear HO0 HW0
    obtain ⟨j, p, z, B, d, A, rfl, rfl, rfl, hj, hp, hzj, HZ, HA, hown, hW⟩ := hrel
    by_cases hlt : j < s.size
    · have hlt' : j < cs.length := by rw [hcl]; exact hlt
      have h256 : s[j].toNat < 256 := s[j].toNat_lt
      have hv : s[j] = cs[j] := by
        rw [byte_get s j hlt, ← Hcs.out, List.getD_eq_getElem?_getD, List.getElem?_eq_getElem hlt']
        rfl
      have htk : cs.take (j + 1) = cs.take j ++ [cs[j]] := List.take_succ_eq_append_getElem hlt'
      have htl : (cs.take j).length = j := by rw [List.length_take]; omega
      obtain ⟨b, hb⟩ : ∃ b : Nat, b = s[j].toNat := ⟨_, rfl⟩
      have Hv := Lib.hid hv
      clear hv
      have Htk := Lib.hid htk
      clear htk
      have Htl := Lib.hid htl
      clear htl
      go_wp2_with fail
      refine wp_loop_rounds 2 ?_
      rw [rounds_succ]
      by_cases h32 : (s[j].toNat : Int) = 32
      · have hA1 : spl (cs.take (j + 1)) = (A ++ [(cs.take j).drop p]) ++ [(cs.take (j + 1)).drop (j + 1)] := by
          have h1 := spl_blank HA.out
          have e : cs[j] = 32 := by
            rw [← Hv.out]
            exact UInt8.toNat_inj.1 (by have : (32 : UInt8).toNat = 32 := rfl; omega)
          have e2 : (cs.take (j + 1)).drop (j + 1) = [] := List.drop_of_length_le (by rw [List.length_take]; omega)
          rw [e2, Htk.out, e, h1]
        have hx : s.extract p j = toBA ((cs.take j).drop p) := by rw [Hcs.out]; exact ext_toBA s p j
        have hZ1 : z + 1 = (A ++ [(cs.take j).drop p]).length := by rw [List.length_append, HZ.out]; rfl
        have hws := hW.size
        have HA1 := Lib.hid hA1
        clear hA1
        have Hx := Lib.hid hx
        clear hx
        have HZ1 := Lib.hid hZ1
        clear hZ1
        have HW := Lib.hid hW
        clear hW
        go_wp2_with fail
        go_region
        all_goals
          go_wp2_with (at_builtin; go_loud (refine wpList_app5 _ wr.drew _ rfl rfl _ _ 29 rfl w.heap.size 9 1 16 _ Tryd.underlying29 info_str rfl (by omega) (.slice B z d) z _ _ rfl rfl rfl (own_drewF hown) rfl (one_cell_strF _) (by omega) (by unfold maxLen; omega) hws ?_); intro g5 c5 w5 hO5 hV5 hG5 hat5)
          have hO6 : w5.ownsRow w.heap.size 9 1 (.slice (some ⟨g5, 0, none⟩) (z + 1) c5) (z + 1) (strB (A ++ [(cs.take j).drop p])) := by rw [strB_snoc, ← Hx.out]; exact hO5
          have hW6 := HW.out.drew.trans hV5
          clear hO5 hG5 hat5 hV5
          go_wp2_with fail
          go_roundw
          case rel => exact ⟨j + 1, j + 1, z + 1, _, c5, _, rfl, by go_num, by go_num, by omega, by omega, by omega, HZ1, HA1, hO6, hW6⟩
          case measure => simp [intOf] <;> omega
      · have hA1 : spl (cs.take (j + 1)) = A ++ [(cs.take (j + 1)).drop p] := by
          have e : cs[j] ≠ 32 := by
            rw [← Hv.out]
            intro e
            rw [e] at h32
            exact h32 rfl
          rw [Htk.out, spl_other e HA.out, List.drop_append_of_le_length (by rw [Htl.out]; exact hp)]
        have hne : ((s[j].toNat : Int) == 32) = false := by simp; omega
        have HA1 := Lib.hid hA1
        clear hA1
        have HW := Lib.hid hW
        clear hW
        go_wp2_with fail
        go_region
        all_goals
          go_wp2_with fail
          rw [rounds_succ]
          go_wp2_with fail
          go_roundw
          case rel => exact ⟨j + 1, p, z, B, d, A, rfl, rfl, by go_num, by omega, by omega, by omega, HZ, HA1, own_drewF hown, HW.out.drew⟩
          case measure => simp [intOf] <;> omega
    · have : j = s.size := by omega
      subst this
      have hT : cs.take s.size = cs := List.take_of_length_le (by omega)
      have hx : s.extract p s.size = toBA (cs.drop p) := by rw [ext_toBA s p s.size, ← Hcs.out, hT]
      have hw2 : strs (splW s) = strB A ++ [.string (toBA (cs.drop p))] := by
        rw [← strB_snoc, strB, splW, ← Hcs.out]
        have h := HA.out
        rw [hT] at h
        rw [h]
      have hlen : (splW s).length = z + 1 := by
        rw [splW, List.length_map, ← Hcs.out]
        have h := HA.out
        rw [hT] at h
        rw [h, List.length_append, HZ.out]
        rfl
      have hws := hW.size
      have Hx := Lib.hid hx
      clear hx
      have Hw2 := Lib.hid hw2
      clear hw2
      have Hlen := Lib.hid hlen
      clear hlen
      have HW := Lib.hid hW
      clear hW
      have HT := Lib.hid hT
      clear hT
      go_wp2_with (at_builtin; go_loud (refine wpList_app5 _ _ _ rfl rfl _ _ 29 rfl w.heap.size 9 1 16 _ Tryd.underlying29 info_str rfl (by omega) (.slice B z d) z _ _ rfl rfl rfl hown rfl (one_cell_strF _) (by omega) (by unfold maxLen; omega) hws ?_); intro g5 c5 w5 hO5 hV5 hG5 hat5)
      have hO6 : w5.ownsRow w.heap.size 9 1 (.slice (some ⟨g5, 0, none⟩) (z + 1) c5) (z + 1) (strs (splW s)) := by rw [Hw2.out, ← Hx.out]; exact hO5
      have hW6 := HW.out.trans hV5
      clear hO5 hG5 hat5 hV5
      go_wp2_with fail
      go_ret
      rw [Hlen.out]
      exact ⟨_, c5, rfl, hO6, hW6⟩

end Go.Proofs.YtgceabbeeobmgaaDoor
