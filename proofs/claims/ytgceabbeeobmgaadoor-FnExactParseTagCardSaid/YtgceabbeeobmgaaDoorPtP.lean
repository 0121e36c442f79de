/- Plain words for ParseTag. No walk, no condition. -/



import Derived.Test.YtgceabbeeobmgaaDoorPiP
import Derived.Test.YtgceabbeeobmgaaDoorSplP
import Derived.Test.YtgceabbeeobmgaaDoorFmtTagS
namespace Go.Proofs.YtgceabbeeobmgaaDoor

open Go.RowKit Go.Shelf

def digV (u : ByteArray) : Int := if u = dig 1 then 1 else if u = dig 2 then 2 else if u = dig 3 then 3 else if u = dig 4 then 4 else 0
theorem digV_dig {k : Int} (h1 : 1 ≤ k) (h4 : k ≤ 4) : digV (dig k) = k := by
  have h : ∀ m : Int, 1 ≤ m → m ≤ 4 → (dig k = dig m ↔ k = m) := fun m a b => ⟨fun e => dig_inj h1 h4 a b e, fun e => by rw [e]⟩
  unfold digV
  simp only [h 1 (by omega) (by omega), h 2 (by omega) (by omega), h 3 (by omega) (by omega), h 4 (by omega) (by omega)]
  split
  · omega
  · split
    · omega
    · split
      · omega
      · split <;> omega
theorem digV_out (u : ByteArray) : (digV u = 0) ∨ (1 ≤ digV u ∧ digV u ≤ 4 ∧ u = dig (digV u)) := by
  unfold digV
  by_cases h1 : u = dig 1
  · rw [if_pos h1]; exact .inr ⟨by omega, by omega, h1⟩
  · rw [if_neg h1]
    by_cases h2 : u = dig 2
    · rw [if_pos h2]; exact .inr ⟨by omega, by omega, h2⟩
    · rw [if_neg h2]
      by_cases h3 : u = dig 3
      · rw [if_pos h3]; exact .inr ⟨by omega, by omega, h3⟩
      · rw [if_neg h3]
        by_cases h4 : u = dig 4
        · rw [if_pos h4]; exact .inr ⟨by omega, by omega, h4⟩
        · rw [if_neg h4]; exact .inl rfl
def undot (x : ByteArray) : ByteArray := if (x.toList == [46]) = true then ⟨#[]⟩ else x
theorem undot_size (x : ByteArray) : (undot x).size ≤ x.size := by
  unfold undot
  split
  · exact Nat.zero_le _
  · exact Nat.le_refl _
def ptU (s : ByteArray) : ByteArray := (splW s).headD ⟨#[]⟩
def ptX (s : ByteArray) : List ByteArray := (splW s).tail.map undot
/-- ParseTag, in plain words. -/
def ptOk (s : ByteArray) : Bool := tagOk (digV (ptU s)) (ptX s) && ((fmtT (digV (ptU s)) (ptX s)).toList == s.toList)
def ptL (s : ByteArray) : Int := if ptOk s then digV (ptU s) else 0
def ptT (s : ByteArray) : List ByteArray := if ptOk s then ptX s else []
theorem tagOk_zero (xs : List ByteArray) : tagOk 0 xs = false := by
  cases h : tagOk 0 xs
  · rfl
  · have := (tagOk_out h).1; omega
theorem ptX_len (s : ByteArray) : (ptX s).length + 1 = (splW s).length := by
  have := splW_ne s
  rw [ptX, List.length_map, List.length_tail]
  omega
theorem ptX_size (s : ByteArray) : ∀ x ∈ ptX s, x.size ≤ s.size := fun x hx => by
  obtain ⟨y, hy, rfl⟩ := List.mem_map.1 hx
  exact Nat.le_trans (undot_size y) (splW_mem s y (List.mem_of_mem_tail hy))
theorem ptU_get (s : ByteArray) : (splW s)[0]? = some (ptU s) := by
  have := splW_ne s
  unfold ptU
  cases h : splW s with
  | nil => rw [h] at this; simp at this
  | cons a t => rfl
theorem ptU_size (s : ByteArray) : (ptU s).size ≤ s.size := splW_mem s _ (List.mem_of_getElem? (ptU_get s))
theorem pt_no1 {s : ByteArray} {n : Int} (h : PiOk (ptU s) n false) : ptOk s = false := by
  rcases digV_out (ptU s) with h0 | ⟨h1, h4, he⟩
  · rw [ptOk, h0, tagOk_zero]; rfl
  · exact absurd (h.2.1 _ h1 h4 he).2 (by simp)
theorem pt_no2 {s : ByteArray} {n : Int} {ok : Bool} (h : PiOk (ptU s) n ok) (ht : tagOk n (ptX s) = false) : ptOk s = false := by
  rcases digV_out (ptU s) with h0 | ⟨h1, h4, he⟩
  · rw [ptOk, h0, tagOk_zero]; rfl
  · rw [ptOk, ← (h.2.1 _ h1 h4 he).1, ht]; rfl
theorem pt_yes {s : ByteArray} {n : Int} {ok : Bool} (h : PiOk (ptU s) n ok) (ht : tagOk n (ptX s) = true) : n = digV (ptU s) := by
  obtain ⟨h1, h4, _⟩ := tagOk_out ht
  cases ok with
  | false =>
    have h0 := h.2.2 rfl
    rw [h0, tagOk_zero] at ht
    cases ht
  | true => rw [h.1 rfl h1 h4, digV_dig h1 h4]
theorem pt_is {s : ByteArray} {n : Int} {ok : Bool} (h : PiOk (ptU s) n ok) (ht : tagOk n (ptX s) = true) : ptOk s = ((fmtT n (ptX s)).toList == s.toList) := by
  rw [ptOk, ← pt_yes h ht, ht, Bool.true_and]
theorem fmtT_no {n : Int} {xs : List ByteArray} (h : tagOk n xs = false) : fmtT n xs = ⟨#[]⟩ := by rw [fmtT, h]; rfl
theorem ptT_len (s : ByteArray) (h : s.size ≤ 1048576) : (ptT s).length ≤ 1048576 := by
  unfold ptT
  split
  · next hk =>
    unfold ptOk at hk
    rw [Bool.and_eq_true] at hk
    have := (tagOk_out hk.1).2.2.2.1
    omega
  · simp
/-- A tag system in memory of the call's own, and a bool. -/
def MadeTagB (w : World) (l : Int) (n : Nat) (xs : List ByteArray) (b : Bool) (e : Ending) (w' : World) : Prop :=
  ∃ A c, e = .returned (.tuple #[.agg #[.int .i64 l, .slice A n c], .bool b]) ∧ w'.ownsRow w.heap.size 9 1 (.slice A n c) n (strs xs) ∧ Below w.heap.size w w'
theorem cut1 {g d z : Nat} (h : z ≤ d) : ∃ k, (if d = 1 then (some ⟨g, 0, none⟩ : Option Addr) else some ⟨g, 1, none⟩) = some ⟨g, k, none⟩ ∧ (1 < z → k = 1) := by
  by_cases h1 : d = 1
  · exact ⟨0, by rw [if_pos h1], fun h => by omega⟩
  · exact ⟨1, by rw [if_neg h1], fun _ => rfl⟩

end Go.Proofs.YtgceabbeeobmgaaDoor
