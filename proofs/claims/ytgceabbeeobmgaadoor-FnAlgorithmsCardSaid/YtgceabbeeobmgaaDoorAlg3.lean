/- The three given algorithms: their walks, and that each computes what the law says. -/


import Derived.Test.YtgceabbeeobmgaaDoorAlg2
import Derived.Test.YtgceabbeeobmgaaDoorAlgP
namespace Go.Proofs.YtgceabbeeobmgaaDoor

open Go.RowKit Go.Shelf

def addO : List OrderT := addL.map toO
def srtO : List OrderT := sortL18.map toO
def dblO : List OrderT := dblL.map toO
theorem ascii_bL {l : List UInt8} (h : ∀ b ∈ l, b.toNat < 128) : ascii (bL l) := by
  rw [ascii_mem, bL_data]
  exact h
theorem wordOk_bL {l : List UInt8} (h1 : l.length ≤ 16) (h : ∀ b ∈ l, 97 ≤ b.toNat ∧ b.toNat ≤ 100) : wordOk 4 (bL l) = true := by
  unfold wordOk lettersOk
  rw [bL_data, bL_size, decide_eq_true h1]
  have : l.all (fun b => inB (b.toNat : Int) 97 (96 + 4)) = true := by
    rw [List.all_eq_true]
    intro b hb
    have := h b hb
    unfold inB
    rw [Bool.and_eq_true]
    exact ⟨decide_eq_true (by omega), decide_eq_true (by omega)⟩
  rw [this]
  rfl
theorem good_add : goodO addO ∧ goodO srtO ∧ goodO dblO := by
  have h : ∀ xs : List OrdL, (xs.all fun o => decide (o.1.length ≤ 16) && decide (o.2.1.length ≤ 16) && (decide (o.1.length ≠ 0) || decide (1 ≤ o.2.1.length)) && o.2.1.all (fun b => decide (b.toNat < 128))) = true → goodO (xs.map toO) := fun xs hx x hxm => by
    obtain ⟨o, ho, rfl⟩ := List.mem_map.1 hxm
    rw [List.all_eq_true] at hx
    have := hx o ho
    simp only [Bool.and_eq_true, decide_eq_true_eq, Bool.or_eq_true, List.all_eq_true] at this
    obtain ⟨⟨⟨a, b⟩, c⟩, d⟩ := this
    refine ⟨by show (bL o.1).size ≤ 16; rw [bL_size]; exact a, by show (bL o.2.1).size ≤ 16; rw [bL_size]; exact b, fun h0 => ?_, ascii_bL d⟩
    show 1 ≤ (bL o.2.1).size
    have h1 : (bL o.1).size = 0 := h0
    rw [bL_size] at h1 ⊢
    rcases c with c | c
    · exact absurd h1 c
    · exact c
  exact ⟨h _ (by decide +kernel), h _ (by decide +kernel), h _ (by decide +kernel)⟩
theorem algOk_add : algOk addO = true ∧ algOk srtO = true ∧ algOk dblO = true := ⟨by decide +kernel, by decide +kernel, by decide +kernel⟩
theorem aN_mem (m : Nat) : ∀ b ∈ aN m, b = 97 := fun b hb => (List.mem_replicate.1 hb).2
theorem aN_len (m : Nat) : (aN m).length = m := List.length_replicate
theorem bN_len (m : Nat) : (bN m).length = m := List.length_replicate

def addU (m n : Nat) : List UInt8 := aN m ++ [98] ++ aN n
theorem addU_all (m n : Nat) : ∀ b ∈ addU m n, 97 ≤ b.toNat ∧ b.toNat ≤ 100 := fun b hb => by
  unfold addU at hb
  rw [List.mem_append, List.mem_append] at hb
  rcases hb with (hb | hb) | hb
  · rw [aN_mem m b hb]; decide
  · rw [List.mem_singleton.1 hb]; decide
  · rw [aN_mem n b hb]; decide
theorem add_run {m n : Nat} (hm : m < 5) (hn : n < 5) : aruns addO 500 (bL (addU m n)) = (bL (aN (m + n)), [0], 0) := by
  have h := add_all
  rw [List.all_eq_true] at h
  have h2 := h m (List.mem_range.2 hm)
  rw [List.all_eq_true] at h2
  have h3 := of_decide_eq_true (h2 n (List.mem_range.2 hn))
  rw [addO, aruns_L]
  show (bL (arunL addL 500 501 (aN m ++ [98] ++ aN n) []).1, (arunL addL 500 501 (aN m ++ [98] ++ aN n) []).2.1, (arunL addL 500 501 (aN m ++ [98] ++ aN n) []).2.2) = _
  rw [h3]
theorem sort_run {l : List UInt8} (hl : l.length ≤ 8) (h : ∀ b ∈ l, b = 97 ∨ b = 98) : ∃ us, aruns srtO 500 (bL l) = (bL (aN (l.count 97) ++ bN (l.count 98)), us, 0) := by
  have h0 := sort_all
  rw [List.all_eq_true] at h0
  have h2 := h0 l.length (List.mem_range.2 (by omega))
  rw [List.all_eq_true] at h2
  have h3 := h2 l (lv2_mem l h)
  unfold srtOk at h3
  rw [Bool.and_eq_true] at h3
  have h4 := of_decide_eq_true h3.1
  have h5 := of_decide_eq_true h3.2
  rw [srtO, aruns_L]
  refine ⟨(arunL sortL18 500 (500 + 1) l []).2.1, ?_⟩
  show (bL (arunL sortL18 500 501 l []).1, _, (arunL sortL18 500 501 l []).2.2) = _
  rw [h4, h5]
theorem dbl_run {m : Nat} (hm : m < 5) : ∃ us, aruns dblO 500 (bL (aN m)) = (bL (aN (2 * m)), us, 0) ∧ us.length = m + 2 ∧ us[0]? = some 2 ∧ us[m + 1]? = some 1 := by
  have h := dbl_all
  rw [List.all_eq_true] at h
  have h2 := h m (List.mem_range.2 hm)
  simp only [Bool.and_eq_true, decide_eq_true_eq] at h2
  obtain ⟨⟨⟨⟨a, b⟩, c⟩, d⟩, e⟩ := h2
  refine ⟨(arunL dblL 500 501 (aN m) []).2.1, ?_, c, d, e⟩
  rw [dblO, aruns_L]
  show (bL (arunL dblL 500 501 (aN m) []).1, _, (arunL dblL 500 501 (aN m) []).2.2) = _
  rw [a, b]
theorem dbl_for : ordFor dblO (bL [97, 99, 97]) = 0 := by decide +kernel

set_option maxRecDepth 100000 in
set_option maxHeartbeats 400000 in
theorem addO_any (w : World) : Calls Tryd.prog 10 #[] w (MadeSl w 58 3 1 (cellsOrder addO)) := by
  go_enter Tryd.func10, Tryd.ntmps10
  go_wp2
  go_ret
  exact ⟨_, _, rfl, own_of_bk (cs := (cellsOrder addO).toArray) (Bk.new _ _ _) (Nat.le_refl _) rfl (by unfold maxLen; omega), (Below.refl _ _).alloc (Nat.le_refl _) _⟩
set_option maxRecDepth 100000 in
set_option maxHeartbeats 400000 in
theorem srtO_any (w : World) : Calls Tryd.prog 11 #[] w (MadeSl w 58 3 1 (cellsOrder srtO)) := by
  go_enter Tryd.func11, Tryd.ntmps11
  go_wp2
  go_ret
  exact ⟨_, _, rfl, own_of_bk (cs := (cellsOrder srtO).toArray) (Bk.new _ _ _) (Nat.le_refl _) rfl (by unfold maxLen; omega), (Below.refl _ _).alloc (Nat.le_refl _) _⟩
set_option maxRecDepth 100000 in
set_option maxHeartbeats 400000 in
theorem dblO_any (w : World) : Calls Tryd.prog 12 #[] w (MadeSl w 58 3 3 (cellsOrder dblO)) := by
  go_enter Tryd.func12, Tryd.ntmps12
  go_wp2
  go_ret
  exact ⟨_, _, rfl, own_of_bk (cs := (cellsOrder dblO).toArray) (Bk.new _ _ _) (Nat.le_refl _) rfl (by unfold maxLen; omega), (Below.refl _ _).alloc (Nat.le_refl _) _⟩

def a16 : ByteArray := ⟨#[97, 97, 97, 97, 97, 97, 97, 97, 97, 97, 97, 97, 97, 97, 97, 97]⟩
theorem a16_ext {m : Nat} (hm : m ≤ 16) : a16.extract 0 m = bL (aN m) := by
  apply ba_eq
  rw [ByteArray.data_extract, Array.toList_extract, List.extract_eq_take_drop, List.drop_zero, Nat.sub_zero, bL_data]
  show List.take m (List.replicate 16 97) = _
  rw [List.take_replicate, aN, Nat.min_eq_left hm]
theorem bL_app (a b : List UInt8) : bL a ++ bL b = bL (a ++ b) := by
  apply ba_eq
  rw [ByteArray.data_append, Array.toList_append, bL_data, bL_data, bL_data]

end Go.Proofs.YtgceabbeeobmgaaDoor
