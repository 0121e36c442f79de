/- strings.Replace at the empty text, once: the new text goes ahead. And at a text that is not empty, by the shelf. -/



import Derived.Test.YtgceabbeeobmgaaDoorFmt
import Derived.Test.YtgceabbeeobmgaaDoorShelfP
import Derived.Test.YtgceabbeeobmgaaDoorWord
namespace Go.Proofs.YtgceabbeeobmgaaDoor

open Go.RowKit Go.Shelf

def ascii (s : ByteArray) : Prop := ∀ (j : Nat) b, s.data.toList[j]? = some b → b.toNat < 128
/-- The first instance of l in s, put as r. -/
def rp1 (s l r : ByteArray) : ByteArray := if l.size = 0 then r ++ s else ⟨(Lib.replace s.data.toList l.data.toList r.data.toList 1).toArray⟩

set_option maxRecDepth 100000 in
set_option maxHeartbeats 1000000 in
theorem libCount0_any (s : ByteArray) (w : World) (hs : s.size ≤ 1048576) (ha : ascii s) : Calls Tryd.prog 30 #[.string s, .string ⟨#[]⟩] w (fun e w' => e = .returned (.int .i64 ((s.size : Int) + 1)) ∧ Below w.heap.size w w') := by
  have hc := Tryd.utf8_RuneCountInString_ascii s w (by omega) ha
  have hB : Below w.heap.size w (w.iter s s.size) := (Below.refl _ _).alloc (Nat.le_refl _) _
  have Hc := Lib.hid hc
  clear hc
  have HB := Lib.hid hB
  clear hB
  go_enter Tryd.func30, Tryd.ntmps30
  go_wp2_with fail
  with_reducible refine Hc.out.mono ?_
  rintro e w1 ⟨rfl, rfl⟩
  go_wp2_with fail
  go_ret
  exact ⟨rfl, HB.out⟩

set_option maxRecDepth 100000 in
set_option maxHeartbeats 2000000 in
theorem replE_any (s new : ByteArray) (w : World) (hs : s.size ≤ 64) (hn1 : 1 ≤ new.size) (hn : new.size ≤ 64) (ha : ascii s) :
    Calls Tryd.prog 61 #[.string s, .string ⟨#[]⟩, .string new, .int .i64 1] w (Kept w (.string (new ++ s))) := by
  have hc := libCount0_any s w (by omega) ha
  have hq : new.toList.isEmpty = false := by
    rw [Lib.toList_data]
    cases h : new.data.toList with
    | nil => have := bytes_len new; rw [h] at this; simp at this; omega
    | cons a t => rfl
  have hq2 : ((⟨#[]⟩ : ByteArray).toList == new.toList) = false := by
    rw [Lib.toList_data, Lib.toList_data]
    cases h : new.data.toList with
    | nil => have := bytes_len new; rw [h] at this; simp at this; omega
    | cons a t => rfl
  have hcz : (((s.size : Int) + 1) == 0) = false := by simp; omega
  have hc1 : ¬ ((s.size : Int) + 1 < 1) := by omega
  have Hc := Lib.hid hc
  clear hc
  go_enter Tryd.func61, Tryd.ntmps61
  go_wp2_with fail
  with_reducible refine Hc.out.mono ?_
  rintro e w1 ⟨rfl, b1⟩
  obtain ⟨g, hg⟩ : ∃ g, g = w1.heap.size := ⟨_, rfl⟩
  have hG := Tryd.Builder_Grow_fresh g g (s.size + new.size) (w1.alloc (.cells #[.pointer none, .slice none 0 0] 95)) (Nat.le_refl _) (by rw [hg]; exact heap_alloc_new w1 _) (by rw [hg]; simp) (by omega)
  rw [show ((s.size + new.size : Nat) : Int) = (s.size : Int) + (new.size : Int) by omega] at hG
  have hW2 := b1.alloc b1.size (.cells #[.pointer none, .slice none 0 0] 95)
  have hgw : w.heap.size ≤ g := by rw [hg]; exact b1.size
  have HG := Lib.hid hG
  clear hG
  have HW2 := Lib.hid hW2
  clear hW2
  have Hg := Lib.hid hg
  clear hg
  go_wp2_with fail
  (try rw [← Hg.out])
  with_reducible refine HG.out.mono ?_
  rintro e w3 ⟨rfl, hb3, b3⟩
  have hW3 := HW2.out.trans (b3.mono hgw)
  have h3g : g ≤ w3.heap.size := by (have h5 := b3.size); simp at h5; (have := Hg.out); omega
  have hS1 := Any.Builder_WriteString { Tryd.lays154 with } Tryd.Builder_Extra_154 g g _ new w3 (Or.inr hb3 : Lib.IsBuilder 95 5 g g (Lib.byteCells []) w3) (by simp [Lib.byteCells]; omega) h3g
  have hS1' : Calls Tryd.prog 78 #[.pointer (some ⟨g, 0, none⟩), .string new] w3 _ := hS1
  clear b3 hb3 hS1 HW2
  have HS1' := Lib.hid hS1'
  clear hS1'
  have HW3 := Lib.hid hW3
  clear hW3
  go_wp2_with fail
  with_reducible refine HS1'.out.mono ?_
  rintro e w4 ⟨rfl, hb4, b4⟩
  have hW4 := HW3.out.trans (b4.mono hgw)
  have h4g : g ≤ w4.heap.size := Nat.le_trans h3g b4.size
  have e4 : Lib.byteCells [] ++ Lib.strCells new = Lib.byteCells new.data.toList := rfl
  rw [e4] at hb4
  have hS2 := Any.Builder_WriteString { Tryd.lays154 with } Tryd.Builder_Extra_154 g g _ s w4 (Or.inr hb4 : Lib.IsBuilder 95 5 g g (Lib.byteCells new.data.toList) w4) (by rw [Lib.byteCells_length, bytes_len]; omega) h4g
  have hS2' : Calls Tryd.prog 78 #[.pointer (some ⟨g, 0, none⟩), .string s] w4 _ := hS2
  have hex : s.extract 0 s.size = s := by
    apply ba_eq
    rw [ByteArray.data_extract, Array.toList_extract, List.extract_eq_take_drop, List.drop_zero, Nat.sub_zero, List.take_of_length_le (by rw [bytes_len]; exact Nat.le_refl _)]
  clear b4 hb4 hS2 HS1' HW3 e4
  have HS2' := Lib.hid hS2'
  clear hS2'
  have HW4 := Lib.hid hW4
  clear hW4
  go_wp2_with fail
  refine wp_loop_rounds 1 ?_
  rw [rounds_succ]
  go_wp2_with fail
  (try rw [hex])
  with_reducible refine HS2'.out.mono ?_
  rintro e w5 ⟨rfl, hb5, b5⟩
  have hW5 := HW4.out.trans (b5.mono hgw)
  have h5g : g ≤ w5.heap.size := Nat.le_trans h4g b5.size
  have e5 : Lib.byteCells new.data.toList ++ Lib.strCells s = Lib.byteCells (new ++ s).data.toList := by rw [Lib.strCells_eq, ← Lib.byteCells_append, ByteArray.data_append, Array.toList_append]
  rw [e5] at hb5
  have hS3 := Tryd.Builder_String_any g g (new ++ s).data.toList w5 (Or.inr hb5) h5g
  rw [show (⟨(new ++ s).data.toList.toArray⟩ : ByteArray) = new ++ s from by apply ba_eq; simp] at hS3
  clear b5 hb5 HS2' HW4 e5 hex
  have HS3 := Lib.hid hS3
  clear hS3
  have HW5 := Lib.hid hW5
  clear hW5
  go_wp2_with fail
  with_reducible refine HS3.out.mono ?_
  rintro e w6 ⟨rfl, b6⟩
  have hW6 := HW5.out.trans (b6.mono hgw)
  have HW6 := Lib.hid hW6
  clear hW6
  go_wp2_with fail
  go_ret
  exact ⟨rfl, HW6.out⟩

theorem repl1_any (s l r : ByteArray) (m : Int) (w : World) (hs : s.size ≤ 64) (hr : r.size ≤ 64) (hr1 : l.size = 0 → 1 ≤ r.size) (ha : ascii s) (hm : w.cell? ⟨0, 0, none⟩ = some (.int .i64 m)) :
    Calls Tryd.prog 61 #[.string s, .string l, .string r, .int .i64 1] w (Kept w (.string (rp1 s l r))) := by
  by_cases h0 : l.size = 0
  · have e : l = ⟨#[]⟩ := by
      apply ba_eq
      have := bytes_len l
      rw [h0] at this
      exact List.eq_nil_of_length_eq_zero this
    rw [rp1, if_pos h0, e]
    exact replE_any s r w hs (hr1 h0) hr ha
  · rw [rp1, if_neg h0]
    have hle := Lib.countB_le l (by omega) s.size s (Nat.le_refl _)
    have hmul : Lib.countB s l * r.size ≤ 64 * 64 := Nat.mul_le_mul (by omega) hr
    exact (Tryd.strings_Replace s l r 1 m w (by omega) hm (by omega) (by omega)).mono fun e w' ⟨he, hb⟩ => ⟨he, hb⟩

end Go.Proofs.YtgceabbeeobmgaaDoor
