/- Merged texts: a claim has a limit of files. -/
import Derived.Test.YtidmbeeadbedaaaMg10
import Derived.Maps.OwnSet
import Derived.Test.YtidmbeeadbedaaaEnds
import Derived.Test.YtidmbeeadbedaaaLess
import Derived.Test.YtidmbeeadbedaaaMkD
import Derived.Test.YtidmbeeadbedaaaSysOk

/- Plain words for FarthestWord and CountClassesUpTo. No walk, no condition. -/
namespace Go.Proofs.Ytidmbeeadbedaaa
open Go.RowKit Go.Shelf

theorem letter_ok {k : Int} {x : Nat} (h : (x : Int) < k) (hk : k ≤ 4) : lettersOk k (letter (x : Int)) = true := by
  unfold lettersOk letter
  have : (97 + (x : Int)).toNat = 97 + x := by omega
  rw [this]
  have h1 : x = 0 ∨ x = 1 ∨ x = 2 ∨ x = 3 := by omega
  rw [List.all_eq_true]
  intro b hb
  have hb2 : b = UInt8.ofNat (97 + x) := List.mem_singleton.1 hb
  subst hb2
  have h2 : (UInt8.ofNat (97 + x)).toNat = 97 + x := by
    rcases h1 with rfl | rfl | rfl | rfl <;> rfl
  rw [h2]
  unfold inB
  rw [decide_eq_true (by omega), decide_eq_true (by omega)]
  rfl
theorem lvl_letters {L : Nat} (h : L ≤ 4) : ∀ k, ∀ s ∈ lvl L k, lettersOk (L : Int) s = true
  | 0 => fun s hs => by
    simp [lvl] at hs
    subst hs
    rfl
  | k + 1 => fun s hs => by
    rw [lvl] at hs
    unfold growL at hs
    obtain ⟨t, ht, hs⟩ := List.mem_flatMap.1 hs
    obtain ⟨x, hx, rfl⟩ := List.mem_map.1 hs
    exact letters_app (lvl_letters h k t ht) (letter_ok (by have := List.mem_range.1 hx; omega) (by omega))
theorem upTo_letters {L : Nat} (h : L ≤ 4) : ∀ k, ∀ s ∈ upTo L k, lettersOk (L : Int) s = true
  | 0 => fun s hs => by
    rw [upTo] at hs
    exact lvl_letters h 0 s hs
  | k + 1 => fun s hs => by
    rw [upTo, List.mem_append] at hs
    rcases hs with hs | hs
    · exact upTo_letters h k s hs
    · exact lvl_letters h (k + 1) s hs
theorem upTo_good {l : Int} (h1 : 1 ≤ l) (h4 : l ≤ 4) {k : Nat} (hk : k ≤ 8) : ∀ s ∈ upTo l.toNat k, good8 l s := fun s hs => by
  have e : ((l.toNat : Nat) : Int) = l := by omega
  have := upTo_letters (L := l.toNat) (by omega) k s hs
  rw [e] at this
  exact ⟨h4, this, Nat.le_trans (upTo_size k s hs) hk⟩
end Go.Proofs.Ytidmbeeadbedaaa

/- Plain words for EqualWords: the order of words, an insertion into a sorted list, that every sorted list of the same words is one and the same, and the list of equal words. No walk, no condition. -/
namespace Go.Proofs.Ytidmbeeadbedaaa
open Go.RowKit Go.Shelf

theorem bytesLess_is : ∀ (x y : List UInt8), Op.bytesLess x y = decide (x < y)
  | [], [] => by simp [Op.bytesLess]
  | _ :: _, [] => by simp [Op.bytesLess]
  | [], _ :: _ => by simp [Op.bytesLess]
  | a :: x, b :: y => by
    rw [Op.bytesLess, bytesLess_is x y]
    simp only [List.cons_lt_cons_iff]
    by_cases h1 : a < b <;> by_cases h2 : a = b <;> by_cases h3 : x < y <;> simp [h1, h2, h3]
theorem ba_one {a b : ByteArray} (h : a.toList = b.toList) : a = b := by
  rw [Lib.toList_data, Lib.toList_data] at h
  obtain ⟨⟨a⟩⟩ := a
  obtain ⟨⟨b⟩⟩ := b
  exact congrArg (fun l => ByteArray.mk ⟨l⟩) h
theorem lessW_total (x y : ByteArray) (h1 : lessW x y = false) (h2 : lessW y x = false) : x = y := by
  unfold lessW at *
  by_cases a : x.size = y.size
  · rw [if_pos a, bytesLess_is] at h1
    rw [if_pos a.symm, bytesLess_is] at h2
    simp only [decide_eq_false_iff_not, List.not_lt] at *
    exact ba_one (List.le_antisymm h2 h1)
  · rw [if_neg a] at h1
    rw [if_neg (by omega)] at h2
    simp only [decide_eq_false_iff_not] at *
    omega
end Go.Proofs.Ytidmbeeadbedaaa

/- A rule that OrientRule hands back is in order. -/
namespace Go.Proofs.Ytidmbeeadbedaaa
open Go.RowKit Go.Shelf

theorem less_left {x y : ByteArray} (h : lessW x y = true) : y.toList.isEmpty = false := by
  cases hy : y.toList with
  | cons a l => rfl
  | nil =>
    exfalso
    have hs : y.size = 0 := by
      rw [ByteArray.toList_eq] at hy
      have := congrArg List.length hy
      rw [bytes_len] at this
      exact this
    unfold lessW at h
    by_cases e : x.size = y.size
    · rw [if_pos e, hy] at h
      have hx : x.toList = [] := by
        rw [ByteArray.toList_eq]
        exact List.length_eq_zero_iff.1 (by rw [bytes_len]; omega)
      rw [hx] at h
      cases h
    · rw [if_neg e] at h
      have := of_decide_eq_true h
      omega
theorem sides_swap {l : Int} {x y : ByteArray} (h : sidesOk l x y = true) : sidesOk l y x = true := by
  unfold sidesOk at h ⊢
  simp only [Bool.and_eq_true] at h ⊢
  exact ⟨⟨⟨h.1.1.2, h.1.1.1⟩, h.2⟩, h.1.2⟩
theorem orient_good {l : Int} {x y o1 o2 : ByteArray} (h : orientR l x y = ((o1, o2), true)) : ruleOk l (o1, o2) = true ∧ fallsOk (o1, o2) = true := by
  unfold orientR at h
  by_cases h1 : (!sidesOk l x y || x.toList == y.toList) = true
  · rw [if_pos h1] at h
    injection h with _ h
    cases h
  · rw [if_neg h1] at h
    have h2 : sidesOk l x y = true ∧ x ≠ y := by
      constructor
      · cases hs : sidesOk l x y with
        | true => rfl
        | false => rw [hs] at h1; exact absurd rfl h1
      · rintro rfl
        exact h1 (by simp)
    by_cases h3 : lessW x y = true
    · rw [if_pos h3] at h
      injection h with h _
      injection h with e1 e2
      subst e1 e2
      refine ⟨?_, h3⟩
      unfold ruleOk
      rw [sides_swap h2.1, less_left h3]
      rfl
    · rw [if_neg h3] at h
      injection h with h _
      injection h with e1 e2
      subst e1 e2
      have h4 : lessW y x = true := by
        cases h5 : lessW y x with
        | true => rfl
        | false => exact absurd (lessW_total x y (by simpa using h3) h5) h2.2
      refine ⟨?_, h4⟩
      unfold ruleOk
      rw [h2.1, less_left h4]
      rfl
theorem sys_of_all {l : Int} {rs : List RuleT} (h1 : 1 ≤ l) (h4 : l ≤ 4) (hn : rs.length ≤ 12) (h : ∀ r ∈ rs, ruleOk l r = true ∧ fallsOk r = true) : systemOk l rs = true := by
  unfold systemOk rulesOk inB
  rw [decide_eq_true h1, decide_eq_true h4, decide_eq_true hn, List.all_eq_true.2 fun r hr => (h r hr).1, List.all_eq_true.2 fun r hr => (h r hr).2]
  rfl

end Go.Proofs.Ytidmbeeadbedaaa
