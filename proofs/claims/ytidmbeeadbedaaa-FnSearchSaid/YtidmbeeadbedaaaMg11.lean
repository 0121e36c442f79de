/- Merged texts: a claim has a limit of files. -/
import Derived.Test.YtidmbeeadbedaaaFwP
import Derived.Test.YtidmbeeadbedaaaMkD
import Derived.Test.YtidmbeeadbedaaaMg7

/- Plain words for EqualWords: the order of words, an insertion into a sorted list, that every sorted list of the same words is one and the same, and the list of equal words. No walk, no condition. -/
namespace Go.Proofs.Ytidmbeeadbedaaa
open Go.RowKit Go.Shelf

theorem bytesLess_is : ∀ (x y : List UInt8), Op.bytesLess x y = decide (x < y)
  | [], [] => by simp [Op.bytesLess]
  | _ :: _, [] => by simp [Op.bytesLess]
  | [], _ :: _ => by simp [Op.bytesLess]
  | a :: x, b :: y => by
    rw [Op.bytesLess, bytesLess_is x y]
    simp only [List.cons_lt_cons_iff]
    by_cases h1 : a < b <;> by_cases h2 : a = b <;> by_cases h3 : x < y <;> simp [h1, h2, h3]
theorem ba_one {a b : ByteArray} (h : a.toList = b.toList) : a = b := by
  rw [Lib.toList_data, Lib.toList_data] at h
  obtain ⟨⟨a⟩⟩ := a
  obtain ⟨⟨b⟩⟩ := b
  exact congrArg (fun l => ByteArray.mk ⟨l⟩) h
theorem lessW_irrefl (x : ByteArray) : lessW x x = false := by
  rw [lessW, if_pos rfl, bytesLess_is]
  simp [List.lt_irrefl]
theorem lessW_trans (x y z : ByteArray) (h1 : lessW x y = true) (h2 : lessW y z = true) : lessW x z = true := by
  unfold lessW at *
  by_cases a : x.size = y.size
  · by_cases b : y.size = z.size
    · rw [if_pos a, bytesLess_is] at h1
      rw [if_pos b, bytesLess_is] at h2
      rw [if_pos (a.trans b), bytesLess_is]
      simp only [decide_eq_true_eq] at *
      exact List.lt_trans h1 h2
    · rw [if_neg b] at h2
      simp only [decide_eq_true_eq] at h2
      rw [if_neg (by omega)]
      exact decide_eq_true (by omega)
  · rw [if_neg a] at h1
    simp only [decide_eq_true_eq] at h1
    by_cases b : y.size = z.size
    · rw [if_neg (by omega)]
      exact decide_eq_true (by omega)
    · rw [if_neg b] at h2
      simp only [decide_eq_true_eq] at h2
      rw [if_neg (by omega)]
      exact decide_eq_true (by omega)
theorem lessW_ntrans (x y z : ByteArray) (h1 : lessW x y = false) (h2 : lessW y z = false) : lessW x z = false := by
  unfold lessW at *
  by_cases a : x.size = y.size
  · by_cases b : y.size = z.size
    · rw [if_pos a, bytesLess_is] at h1
      rw [if_pos b, bytesLess_is] at h2
      rw [if_pos (a.trans b), bytesLess_is]
      simp only [decide_eq_false_iff_not, List.not_lt] at *
      exact List.le_trans h2 h1
    · rw [if_neg b] at h2
      simp only [decide_eq_false_iff_not] at h2
      rw [if_neg (by omega)]
      exact decide_eq_false (by omega)
  · rw [if_neg a] at h1
    simp only [decide_eq_false_iff_not] at h1
    by_cases b : y.size = z.size
    · rw [if_neg (by omega)]
      exact decide_eq_false (by omega)
    · rw [if_neg b] at h2
      simp only [decide_eq_false_iff_not] at h2
      rw [if_neg (by omega)]
      exact decide_eq_false (by omega)
theorem lessW_total (x y : ByteArray) (h1 : lessW x y = false) (h2 : lessW y x = false) : x = y := by
  unfold lessW at *
  by_cases a : x.size = y.size
  · rw [if_pos a, bytesLess_is] at h1
    rw [if_pos a.symm, bytesLess_is] at h2
    simp only [decide_eq_false_iff_not, List.not_lt] at *
    exact ba_one (List.le_antisymm h2 h1)
  · rw [if_neg a] at h1
    rw [if_neg (by omega)] at h2
    simp only [decide_eq_false_iff_not] at *
    omega
theorem lessW_asymm {x y : ByteArray} (h : lessW x y = true) : lessW y x = false := by
  cases h2 : lessW y x
  · rfl
  · rw [← lessW_irrefl x, lessW_trans x y x h h2]

/-- A word laid behind those that are less. -/
def insW (o : List ByteArray) (w : ByteArray) : List ByteArray := o.takeWhile (lessW · w) ++ w :: o.dropWhile (lessW · w)
def srtW (ws : List ByteArray) : List ByteArray := ws.foldl insW []
theorem insW_perm (o : List ByteArray) (w : ByteArray) : (insW o w).Perm (o ++ [w]) := by
  have e : o.takeWhile (lessW · w) ++ o.dropWhile (lessW · w) = o := List.takeWhile_append_dropWhile
  have h : (insW o w).Perm (w :: (o.takeWhile (lessW · w) ++ o.dropWhile (lessW · w))) := List.perm_middle
  rw [e] at h
  exact h.trans (List.perm_append_singleton w o).symm
theorem srtW_perm (ws : List ByteArray) : (srtW ws).Perm ws := by
  suffices ∀ (ws o : List ByteArray), (ws.foldl insW o).Perm (o ++ ws) by simpa [srtW] using this ws []
  intro ws
  induction ws with
  | nil => intro o; simp
  | cons w ws ih =>
    intro o
    refine (ih (insW o w)).trans ?_
    rw [show o ++ w :: ws = (o ++ [w]) ++ ws by simp]
    exact (insW_perm o w).append_right ws
def leW (x y : ByteArray) : Prop := lessW y x = false
theorem drop_head {p : ByteArray → Bool} : ∀ {o : List ByteArray} {a : ByteArray} {t : List ByteArray}, o.dropWhile p = a :: t → p a = false
  | [], _, _, h => by cases h
  | x :: o, a, t, h => by
    rw [List.dropWhile_cons] at h
    split at h
    · exact drop_head h
    · next hx =>
      injection h with h1 _
      subst h1
      simpa using hx
theorem insW_sorted {o : List ByteArray} (h : o.Pairwise leW) (w : ByteArray) : (insW o w).Pairwise leW := by
  have e : o.takeWhile (lessW · w) ++ o.dropWhile (lessW · w) = o := List.takeWhile_append_dropWhile
  rw [← e, List.pairwise_append] at h
  obtain ⟨h1, h2, h3⟩ := h
  have ht : ∀ x ∈ o.takeWhile (lessW · w), lessW x w = true := fun x hx => by
    have := List.all_takeWhile (p := fun x => lessW x w) (l := o)
    rw [List.all_eq_true] at this
    exact this x hx
  have hd : ∀ y ∈ o.dropWhile (lessW · w), leW w y := fun y hy => by
    cases hD : o.dropWhile (lessW · w) with
    | nil => rw [hD] at hy; cases hy
    | cons a t =>
      have ha := drop_head hD
      rw [hD] at hy h2
      rcases List.mem_cons.1 hy with rfl | hy
      · exact ha
      · exact lessW_ntrans _ _ _ ((List.pairwise_cons.1 h2).1 y hy) ha
  unfold insW
  rw [List.pairwise_append]
  refine ⟨h1, ?_, ?_⟩
  · rw [List.pairwise_cons]
    exact ⟨hd, h2⟩
  · intro x hx y hy
    rcases List.mem_cons.1 hy with rfl | hy
    · exact lessW_asymm (ht x hx)
    · exact h3 x hx y hy
theorem srtW_sorted (ws : List ByteArray) : (srtW ws).Pairwise leW := by
  suffices ∀ (ws o : List ByteArray), o.Pairwise leW → (ws.foldl insW o).Pairwise leW from this ws [] List.Pairwise.nil
  intro ws
  induction ws with
  | nil => intro o h; exact h
  | cons w ws ih => intro o h; exact ih _ (insW_sorted h w)
theorem sorted_one {a b : List ByteArray} (hp : a.Perm b) (ha : a.Pairwise leW) (hb : b.Pairwise leW) : a = b :=
  List.Perm.eq_of_pairwise (fun x y _ _ h1 h2 => lessW_total x y h2 h1) ha hb hp
theorem srtW_len (ws : List ByteArray) : (srtW ws).length = ws.length := (srtW_perm ws).length_eq

/-- EqualWords, in plain words. -/
def eqL (l : Int) (rs : List RuleT) (s : ByteArray) (lim : Int) : List ByteArray := if searched l rs s lim then srtW (srWords (srAll rs s lim)) else []
theorem eqL_len (l : Int) (rs : List RuleT) (s : ByteArray) (lim : Int) : (eqL l rs s lim).length ≤ 1048576 := by
  unfold eqL
  split
  · next h =>
    unfold searched at h
    rw [Bool.and_eq_true] at h
    obtain ⟨hro, hg8, hl8⟩ := searched_out h.1 h.2
    have := srGood_len (srAll_good hro hl8 hg8)
    rw [srtW_len, srWords_len]
    omega
  · simp

end Go.Proofs.Ytidmbeeadbedaaa

/- A rule that OrientRule hands back is in order. -/
namespace Go.Proofs.Ytidmbeeadbedaaa
open Go.RowKit Go.Shelf

theorem less_left {x y : ByteArray} (h : lessW x y = true) : y.toList.isEmpty = false := by
  cases hy : y.toList with
  | cons a l => rfl
  | nil =>
    exfalso
    have hs : y.size = 0 := by
      rw [ByteArray.toList_eq] at hy
      have := congrArg List.length hy
      rw [bytes_len] at this
      exact this
    unfold lessW at h
    by_cases e : x.size = y.size
    · rw [if_pos e, hy] at h
      have hx : x.toList = [] := by
        rw [ByteArray.toList_eq]
        exact List.length_eq_zero_iff.1 (by rw [bytes_len]; omega)
      rw [hx] at h
      cases h
    · rw [if_neg e] at h
      have := of_decide_eq_true h
      omega
theorem sides_swap {l : Int} {x y : ByteArray} (h : sidesOk l x y = true) : sidesOk l y x = true := by
  unfold sidesOk at h ⊢
  simp only [Bool.and_eq_true] at h ⊢
  exact ⟨⟨⟨h.1.1.2, h.1.1.1⟩, h.2⟩, h.1.2⟩
theorem orient_good {l : Int} {x y o1 o2 : ByteArray} (h : orientR l x y = ((o1, o2), true)) : ruleOk l (o1, o2) = true ∧ fallsOk (o1, o2) = true := by
  unfold orientR at h
  by_cases h1 : (!sidesOk l x y || x.toList == y.toList) = true
  · rw [if_pos h1] at h
    injection h with _ h
    cases h
  · rw [if_neg h1] at h
    have h2 : sidesOk l x y = true ∧ x ≠ y := by
      constructor
      · cases hs : sidesOk l x y with
        | true => rfl
        | false => rw [hs] at h1; exact absurd rfl h1
      · rintro rfl
        exact h1 (by simp)
    by_cases h3 : lessW x y = true
    · rw [if_pos h3] at h
      injection h with h _
      injection h with e1 e2
      subst e1 e2
      refine ⟨?_, h3⟩
      unfold ruleOk
      rw [sides_swap h2.1, less_left h3]
      rfl
    · rw [if_neg h3] at h
      injection h with h _
      injection h with e1 e2
      subst e1 e2
      have h4 : lessW y x = true := by
        cases h5 : lessW y x with
        | true => rfl
        | false => exact absurd (lessW_total x y (by simpa using h3) h5) h2.2
      refine ⟨?_, h4⟩
      unfold ruleOk
      rw [h2.1, less_left h4]
      rfl
theorem sys_of_all {l : Int} {rs : List RuleT} (h1 : 1 ≤ l) (h4 : l ≤ 4) (hn : rs.length ≤ 12) (h : ∀ r ∈ rs, ruleOk l r = true ∧ fallsOk r = true) : systemOk l rs = true := by
  unfold systemOk rulesOk inB
  rw [decide_eq_true h1, decide_eq_true h4, decide_eq_true hn, List.all_eq_true.2 fun r hr => (h r hr).1, List.all_eq_true.2 fun r hr => (h r hr).2]
  rfl

end Go.Proofs.Ytidmbeeadbedaaa
