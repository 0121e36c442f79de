/- Merged texts: a claim has a limit of files. -/
import Derived.Test.YtidmbeeadbedaaaMg12
import Derived.Test.YtidmbeeadbedaaaMg1
import Derived.Test.YtidmbeeadbedaaaMg13
import Derived.Maps.OwnSet
import Derived.Test.YtidmbeeadbedaaaLoop
import Derived.Test.YtidmbeeadbedaaaMg5
import Derived.Test.YtidmbeeadbedaaaMg4
import Derived.Test.YtidmbeeadbedaaaLess
import Derived.Test.YtidmbeeadbedaaaMkD
import Derived.Test.YtidmbeeadbedaaaSysOk

/- Walks over TurnProof (the program's and the reference's): both hand back the links turned round. -/
namespace Go.Proofs.Ytidmbeeadbedaaa
open Go.RowKit Go.Shelf

theorem cellsLink_snoc1 (xs : List LinkT) (a b : Int) (c : Bool) : cellsLink (xs ++ [(a, b, c)]) = cellsLink xs ++ [.int .i64 a, .int .i64 b, .bool c] := by simp [cellsLink, encLink]
theorem one_cell_link1 (a b : Int) (c : Bool) : ∀ u ∈ (#[Value.int .i64 a, Value.int .i64 b, Value.bool c] : Array Value).toList, u.oneCell' = true := by
  intro u hu
  simp at hu
  rcases hu with rfl | rfl | rfl <;> rfl

/-- The cells zs are those of n links, the q-th of them F q. -/
def At (zs : List Value) (n : Nat) (F : Nat → LinkT) : Prop := zs.length = n * 3 ∧ ∀ q, q < n → zs[q * 3]? = some (.int .i64 (F q).1) ∧ zs[q * 3 + 1]? = some (.int .i64 (F q).2.1) ∧ zs[q * 3 + 2]? = some (.bool (F q).2.2)

theorem At.all {zs : List Value} {n : Nat} {F : Nat → LinkT} (h : At zs n F) {ls : List LinkT} (hl : ls.length = n) (hF : ∀ q (hq : q < ls.length), F q = ls[q]) : zs = cellsLink ls := by
  apply List.ext_getElem?
  intro j
  rcases Nat.lt_or_ge j (n * 3) with hj | hj
  · have hq : j / 3 < n := by omega
    obtain ⟨h0, h1, h2⟩ := h.2 (j / 3) hq
    have hq2 : j / 3 < ls.length := by omega
    rw [hF _ hq2] at h0 h1 h2
    have hr : j % 3 = 0 ∨ j % 3 = 1 ∨ j % 3 = 2 := by omega
    rcases hr with hr | hr | hr
    · have e : j = j / 3 * 3 := by omega
      rw [e, h0]
      exact (flat_get (enc := encLink) (m := 3) (fun _ => rfl) ls (j / 3) 0 hq2 (by omega)).symm
    · have e : j = j / 3 * 3 + 1 := by omega
      rw [e, h1]
      exact (flat_get (enc := encLink) (m := 3) (fun _ => rfl) ls (j / 3) 1 hq2 (by omega)).symm
    · have e : j = j / 3 * 3 + 2 := by omega
      rw [e, h2]
      exact (flat_get (enc := encLink) (m := 3) (fun _ => rfl) ls (j / 3) 2 hq2 (by omega)).symm
  · rw [List.getElem?_eq_none (by rw [h.1]; exact hj), List.getElem?_eq_none (by rw [cellsLink_len, hl]; exact hj)]
theorem At.congr {zs : List Value} {n : Nat} {F G : Nat → LinkT} (h : At zs n F) (e : ∀ q, q < n → F q = G q) : At zs n G := ⟨h.1, fun q hq => by rw [← e q hq]; exact h.2 q hq⟩

theorem own_drew1 {w : World} {base : Nat} {t : TypeId} {m n : Nat} {v : Value} {xs : List Value} (h : w.ownsRow base t m v n xs) : w.drew.ownsRow base t m v n xs := h
theorem own_form {w : World} {base : Nat} {t : TypeId} {m n : Nat} {v : Value} {xs : List Value} (h : w.ownsRow base t m v n xs) : ∃ A c, v = .slice A n c := by
  rcases h.2 with ⟨h1, h2⟩ | ⟨g, cap, cur, hv, _⟩
  · exact ⟨none, 0, by rw [h1, h2]⟩
  · exact ⟨_, _, hv⟩

end Go.Proofs.Ytidmbeeadbedaaa

/- Plain words for EqualWords: the order of words, an insertion into a sorted list, that every sorted list of the same words is one and the same, and the list of equal words. No walk, no condition. -/
namespace Go.Proofs.Ytidmbeeadbedaaa
open Go.RowKit Go.Shelf

theorem bytesLess_is : ∀ (x y : List UInt8), Op.bytesLess x y = decide (x < y)
  | [], [] => by simp [Op.bytesLess]
  | _ :: _, [] => by simp [Op.bytesLess]
  | [], _ :: _ => by simp [Op.bytesLess]
  | a :: x, b :: y => by
    rw [Op.bytesLess, bytesLess_is x y]
    simp only [List.cons_lt_cons_iff]
    by_cases h1 : a < b <;> by_cases h2 : a = b <;> by_cases h3 : x < y <;> simp [h1, h2, h3]
theorem ba_one {a b : ByteArray} (h : a.toList = b.toList) : a = b := by
  rw [Lib.toList_data, Lib.toList_data] at h
  obtain ⟨⟨a⟩⟩ := a
  obtain ⟨⟨b⟩⟩ := b
  exact congrArg (fun l => ByteArray.mk ⟨l⟩) h
theorem lessW_total (x y : ByteArray) (h1 : lessW x y = false) (h2 : lessW y x = false) : x = y := by
  unfold lessW at *
  by_cases a : x.size = y.size
  · rw [if_pos a, bytesLess_is] at h1
    rw [if_pos a.symm, bytesLess_is] at h2
    simp only [decide_eq_false_iff_not, List.not_lt] at *
    exact ba_one (List.le_antisymm h2 h1)
  · rw [if_neg a] at h1
    rw [if_neg (by omega)] at h2
    simp only [decide_eq_false_iff_not] at *
    omega
end Go.Proofs.Ytidmbeeadbedaaa

/- A rule that OrientRule hands back is in order. -/
namespace Go.Proofs.Ytidmbeeadbedaaa
open Go.RowKit Go.Shelf

theorem less_left {x y : ByteArray} (h : lessW x y = true) : y.toList.isEmpty = false := by
  cases hy : y.toList with
  | cons a l => rfl
  | nil =>
    exfalso
    have hs : y.size = 0 := by
      rw [ByteArray.toList_eq] at hy
      have := congrArg List.length hy
      rw [bytes_len] at this
      exact this
    unfold lessW at h
    by_cases e : x.size = y.size
    · rw [if_pos e, hy] at h
      have hx : x.toList = [] := by
        rw [ByteArray.toList_eq]
        exact List.length_eq_zero_iff.1 (by rw [bytes_len]; omega)
      rw [hx] at h
      cases h
    · rw [if_neg e] at h
      have := of_decide_eq_true h
      omega
theorem sides_swap {l : Int} {x y : ByteArray} (h : sidesOk l x y = true) : sidesOk l y x = true := by
  unfold sidesOk at h ⊢
  simp only [Bool.and_eq_true] at h ⊢
  exact ⟨⟨⟨h.1.1.2, h.1.1.1⟩, h.2⟩, h.1.2⟩
theorem orient_good {l : Int} {x y o1 o2 : ByteArray} (h : orientR l x y = ((o1, o2), true)) : ruleOk l (o1, o2) = true ∧ fallsOk (o1, o2) = true := by
  unfold orientR at h
  by_cases h1 : (!sidesOk l x y || x.toList == y.toList) = true
  · rw [if_pos h1] at h
    injection h with _ h
    cases h
  · rw [if_neg h1] at h
    have h2 : sidesOk l x y = true ∧ x ≠ y := by
      constructor
      · cases hs : sidesOk l x y with
        | true => rfl
        | false => rw [hs] at h1; exact absurd rfl h1
      · rintro rfl
        exact h1 (by simp)
    by_cases h3 : lessW x y = true
    · rw [if_pos h3] at h
      injection h with h _
      injection h with e1 e2
      subst e1 e2
      refine ⟨?_, h3⟩
      unfold ruleOk
      rw [sides_swap h2.1, less_left h3]
      rfl
    · rw [if_neg h3] at h
      injection h with h _
      injection h with e1 e2
      subst e1 e2
      have h4 : lessW y x = true := by
        cases h5 : lessW y x with
        | true => rfl
        | false => exact absurd (lessW_total x y (by simpa using h3) h5) h2.2
      refine ⟨?_, h4⟩
      unfold ruleOk
      rw [h2.1, less_left h4]
      rfl
theorem sys_of_all {l : Int} {rs : List RuleT} (h1 : 1 ≤ l) (h4 : l ≤ 4) (hn : rs.length ≤ 12) (h : ∀ r ∈ rs, ruleOk l r = true ∧ fallsOk r = true) : systemOk l rs = true := by
  unfold systemOk rulesOk inB
  rw [decide_eq_true h1, decide_eq_true h4, decide_eq_true hn, List.all_eq_true.2 fun r hr => (h r hr).1, List.all_eq_true.2 fun r hr => (h r hr).2]
  rfl

end Go.Proofs.Ytidmbeeadbedaaa
