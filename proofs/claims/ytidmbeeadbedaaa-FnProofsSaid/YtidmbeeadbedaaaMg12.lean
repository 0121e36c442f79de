/- Merged texts: a claim has a limit of files. -/
import Derived.Test.YtidmbeeadbedaaaMg11
import Derived.Maps.OwnSet
import Derived.Test.YtidmbeeadbedaaaTurn
import Derived.Test.YtidmbeeadbedaaaLoop
import Derived.Test.YtidmbeeadbedaaaMg4
import Derived.Test.YtidmbeeadbedaaaMg3
import Derived.Test.YtidmbeeadbedaaaLess
import Derived.Test.YtidmbeeadbedaaaMkD
import Derived.Test.YtidmbeeadbedaaaMg8

/- Walks over ShortestChain and DistanceBetween of the program. -/
namespace Go.Proofs.Ytidmbeeadbedaaa
open Go.RowKit Go.Shelf

def slenOf : Value → Nat
  | .slice _ n _ => n
  | _ => 0
end Go.Proofs.Ytidmbeeadbedaaa

/- Walks over longerWords, wordsUpTo and EndsAlways of the program and EndsAlways of the reference: both give the same answer. -/
namespace Go.Proofs.Ytidmbeeadbedaaa
open Go.RowKit Go.Shelf

theorem one_cell_strs (xs : List ByteArray) : ∀ u ∈ strs xs, u.oneCell' = true := fun u hu => by
  obtain ⟨x, _, rfl⟩ := List.mem_map.1 hu
  rfl

end Go.Proofs.Ytidmbeeadbedaaa

/- Plain words for EqualWords: the order of words, an insertion into a sorted list, that every sorted list of the same words is one and the same, and the list of equal words. No walk, no condition. -/
namespace Go.Proofs.Ytidmbeeadbedaaa
open Go.RowKit Go.Shelf

theorem bytesLess_is : ∀ (x y : List UInt8), Op.bytesLess x y = decide (x < y)
  | [], [] => by simp [Op.bytesLess]
  | _ :: _, [] => by simp [Op.bytesLess]
  | [], _ :: _ => by simp [Op.bytesLess]
  | a :: x, b :: y => by
    rw [Op.bytesLess, bytesLess_is x y]
    simp only [List.cons_lt_cons_iff]
    by_cases h1 : a < b <;> by_cases h2 : a = b <;> by_cases h3 : x < y <;> simp [h1, h2, h3]
theorem ba_one {a b : ByteArray} (h : a.toList = b.toList) : a = b := by
  rw [Lib.toList_data, Lib.toList_data] at h
  obtain ⟨⟨a⟩⟩ := a
  obtain ⟨⟨b⟩⟩ := b
  exact congrArg (fun l => ByteArray.mk ⟨l⟩) h
theorem lessW_irrefl (x : ByteArray) : lessW x x = false := by
  rw [lessW, if_pos rfl, bytesLess_is]
  simp [List.lt_irrefl]
theorem lessW_trans (x y z : ByteArray) (h1 : lessW x y = true) (h2 : lessW y z = true) : lessW x z = true := by
  unfold lessW at *
  by_cases a : x.size = y.size
  · by_cases b : y.size = z.size
    · rw [if_pos a, bytesLess_is] at h1
      rw [if_pos b, bytesLess_is] at h2
      rw [if_pos (a.trans b), bytesLess_is]
      simp only [decide_eq_true_eq] at *
      exact List.lt_trans h1 h2
    · rw [if_neg b] at h2
      simp only [decide_eq_true_eq] at h2
      rw [if_neg (by omega)]
      exact decide_eq_true (by omega)
  · rw [if_neg a] at h1
    simp only [decide_eq_true_eq] at h1
    by_cases b : y.size = z.size
    · rw [if_neg (by omega)]
      exact decide_eq_true (by omega)
    · rw [if_neg b] at h2
      simp only [decide_eq_true_eq] at h2
      rw [if_neg (by omega)]
      exact decide_eq_true (by omega)
theorem lessW_total (x y : ByteArray) (h1 : lessW x y = false) (h2 : lessW y x = false) : x = y := by
  unfold lessW at *
  by_cases a : x.size = y.size
  · rw [if_pos a, bytesLess_is] at h1
    rw [if_pos a.symm, bytesLess_is] at h2
    simp only [decide_eq_false_iff_not, List.not_lt] at *
    exact ba_one (List.le_antisymm h2 h1)
  · rw [if_neg a] at h1
    rw [if_neg (by omega)] at h2
    simp only [decide_eq_false_iff_not] at *
    omega
end Go.Proofs.Ytidmbeeadbedaaa

/- A rule that OrientRule hands back is in order. -/
namespace Go.Proofs.Ytidmbeeadbedaaa
open Go.RowKit Go.Shelf

theorem less_left {x y : ByteArray} (h : lessW x y = true) : y.toList.isEmpty = false := by
  cases hy : y.toList with
  | cons a l => rfl
  | nil =>
    exfalso
    have hs : y.size = 0 := by
      rw [ByteArray.toList_eq] at hy
      have := congrArg List.length hy
      rw [bytes_len] at this
      exact this
    unfold lessW at h
    by_cases e : x.size = y.size
    · rw [if_pos e, hy] at h
      have hx : x.toList = [] := by
        rw [ByteArray.toList_eq]
        exact List.length_eq_zero_iff.1 (by rw [bytes_len]; omega)
      rw [hx] at h
      cases h
    · rw [if_neg e] at h
      have := of_decide_eq_true h
      omega
theorem sides_swap {l : Int} {x y : ByteArray} (h : sidesOk l x y = true) : sidesOk l y x = true := by
  unfold sidesOk at h ⊢
  simp only [Bool.and_eq_true] at h ⊢
  exact ⟨⟨⟨h.1.1.2, h.1.1.1⟩, h.2⟩, h.1.2⟩
theorem orient_good {l : Int} {x y o1 o2 : ByteArray} (h : orientR l x y = ((o1, o2), true)) : ruleOk l (o1, o2) = true ∧ fallsOk (o1, o2) = true := by
  unfold orientR at h
  by_cases h1 : (!sidesOk l x y || x.toList == y.toList) = true
  · rw [if_pos h1] at h
    injection h with _ h
    cases h
  · rw [if_neg h1] at h
    have h2 : sidesOk l x y = true ∧ x ≠ y := by
      constructor
      · cases hs : sidesOk l x y with
        | true => rfl
        | false => rw [hs] at h1; exact absurd rfl h1
      · rintro rfl
        exact h1 (by simp)
    by_cases h3 : lessW x y = true
    · rw [if_pos h3] at h
      injection h with h _
      injection h with e1 e2
      subst e1 e2
      refine ⟨?_, h3⟩
      unfold ruleOk
      rw [sides_swap h2.1, less_left h3]
      rfl
    · rw [if_neg h3] at h
      injection h with h _
      injection h with e1 e2
      subst e1 e2
      have h4 : lessW y x = true := by
        cases h5 : lessW y x with
        | true => rfl
        | false => exact absurd (lessW_total x y (by simpa using h3) h5) h2.2
      refine ⟨?_, h4⟩
      unfold ruleOk
      rw [h2.1, less_left h4]
      rfl
theorem sys_of_all {l : Int} {rs : List RuleT} (h1 : 1 ≤ l) (h4 : l ≤ 4) (hn : rs.length ≤ 12) (h : ∀ r ∈ rs, ruleOk l r = true ∧ fallsOk r = true) : systemOk l rs = true := by
  unfold systemOk rulesOk inB
  rw [decide_eq_true h1, decide_eq_true h4, decide_eq_true hn, List.all_eq_true.2 fun r hr => (h r hr).1, List.all_eq_true.2 fun r hr => (h r hr).2]
  rfl

end Go.Proofs.Ytidmbeeadbedaaa
