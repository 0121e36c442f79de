/- Plain words for FarthestWord and CountClassesUpTo. No walk, no condition. -/
import Derived.Test.YtidmbeeadbedaaaShort
import Derived.Test.YtidmbeeadbedaaaEnds
import Derived.Test.YtidmbeeadbedaaaLess
namespace Go.Proofs.Ytidmbeeadbedaaa
open Go.RowKit Go.Shelf

def fwStep (S : List SrT) (b j : Nat) : Nat := if (srAt S b).2.2.2 < (srAt S j).2.2.2 ∨ ((srAt S j).2.2.2 = (srAt S b).2.2.2 ∧ lessW (srAt S j).1 (srAt S b).1 = true) then j else b
def fwTo (S : List SrT) : Nat → Nat
  | 0 => 0
  | j + 1 => fwStep S (fwTo S j) j
theorem fwTo_lt {S : List SrT} (h : 0 < S.length) : ∀ j, j ≤ S.length → fwTo S j < S.length
  | 0, _ => h
  | j + 1, hj => by
    have := fwTo_lt h j (by omega)
    rw [fwTo, fwStep]
    split
    · omega
    · exact this
theorem fwTo_gt {S : List SrT} {j b : Nat} (hb : b = fwTo S j) (h : (srAt S b).2.2.2 < (srAt S j).2.2.2) : fwTo S (j + 1) = j := by rw [fwTo, ← hb, fwStep, if_pos (.inl h)]
theorem fwTo_lt2 {S : List SrT} {j b : Nat} (hb : b = fwTo S j) (h : (srAt S j).2.2.2 < (srAt S b).2.2.2) : fwTo S (j + 1) = b := by
  rw [fwTo, ← hb, fwStep, if_neg]
  rintro (h1 | ⟨h1, _⟩) <;> omega
theorem fwTo_less {S : List SrT} {j b : Nat} (hb : b = fwTo S j) (h : (srAt S j).2.2.2 = (srAt S b).2.2.2) (hl : lessW (srAt S j).1 (srAt S b).1 = true) : fwTo S (j + 1) = j := by rw [fwTo, ← hb, fwStep, if_pos (.inr ⟨h, hl⟩)]
theorem fwTo_not {S : List SrT} {j b : Nat} (hb : b = fwTo S j) (h : (srAt S j).2.2.2 = (srAt S b).2.2.2) (hl : lessW (srAt S j).1 (srAt S b).1 = false) : fwTo S (j + 1) = b := by
  rw [fwTo, ← hb, fwStep, if_neg]
  rintro (h1 | ⟨_, h1⟩)
  · omega
  · rw [hl] at h1; cases h1
theorem srGo_le {rs : List RuleT} {lim : Int} : ∀ (f a : Nat) (S : List SrT), S.length ≤ (srGo rs lim f a S).length
  | 0, _, _ => Nat.le_refl _
  | f + 1, a, S => by
    rw [srGo]
    split
    · refine Nat.le_trans ?_ (srGo_le f (a + 1) _)
      have : ∀ (xs : List LinkT) (T : List SrT), T.length ≤ (srRow rs a T xs).length := by
        intro xs
        induction xs with
        | nil => intro T; exact Nat.le_refl _
        | cons x xs ih => intro T; exact Nat.le_trans (srAdd_le rs a T x) (ih _)
      exact this _ _
    · exact Nat.le_refl _
theorem srAll_pos (rs : List RuleT) (s : ByteArray) (lim : Int) : 0 < (srAll rs s lim).length := Nat.lt_of_lt_of_le (by simp) (srGo_le _ _ _)
/-- FarthestWord, in plain words. -/
def fwAt (rs : List RuleT) (s : ByteArray) (lim : Int) : Nat := fwTo (srAll rs s lim) (srAll rs s lim).length
def fwS (l : Int) (rs : List RuleT) (s : ByteArray) (lim : Int) : ByteArray := if searched l rs s lim then (srAt (srAll rs s lim) (fwAt rs s lim)).1 else ⟨#[]⟩
def fwF (l : Int) (rs : List RuleT) (s : ByteArray) (lim : Int) : Int := if searched l rs s lim then (srAt (srAll rs s lim) (fwAt rs s lim)).2.2.2 else -1
theorem fwS_len (l : Int) (rs : List RuleT) (s : ByteArray) (lim : Int) : (fwS l rs s lim).size ≤ 1048576 := by
  unfold fwS
  split
  · next h =>
    unfold searched at h
    rw [Bool.and_eq_true] at h
    obtain ⟨hro, hg8, hl8⟩ := searched_out h.1 h.2
    have hgd := srAll_good hro hl8 hg8
    have := (hgd.2.1 _ (srAt_word (fwTo_lt (srAll_pos rs s lim) _ (Nat.le_refl _)))).2.2
    unfold fwAt
    omega
  · show (0 : Nat) ≤ 1048576
    omega

/-- The classes: the words seen so far and how many classes they are. -/
def clStep (rs : List RuleT) (lim : Int) (st : List ByteArray × Nat) (s : ByteArray) : List ByteArray × Nat := match fnd st.1 s with
  | some _ => st
  | none => (st.1 ++ srWords (srAll rs s lim), st.2 + 1)
def clTo (rs : List RuleT) (lim : Int) (ws : List ByteArray) : List ByteArray × Nat := ws.foldl (clStep rs lim) ([], 0)
theorem clTo_nil (rs : List RuleT) (lim : Int) : clTo rs lim [] = ([], 0) := rfl
theorem clTo_snoc (rs : List RuleT) (lim : Int) (ws : List ByteArray) (s : ByteArray) : clTo rs lim (ws ++ [s]) = clStep rs lim (clTo rs lim ws) s := by rw [clTo, List.foldl_append]; rfl
theorem clTo_hit {rs : List RuleT} {lim : Int} {ws : List ByteArray} {s : ByteArray} {i : Nat} (h : fnd (clTo rs lim ws).1 s = some i) : clTo rs lim (ws ++ [s]) = clTo rs lim ws := by rw [clTo_snoc, clStep, h]
theorem clTo_new {rs : List RuleT} {lim : Int} {ws : List ByteArray} {s : ByteArray} (h : fnd (clTo rs lim ws).1 s = none) : clTo rs lim (ws ++ [s]) = ((clTo rs lim ws).1 ++ srWords (srAll rs s lim), (clTo rs lim ws).2 + 1) := by rw [clTo_snoc, clStep, h]
/-- CountClassesUpTo, in plain words. -/
def clN (l : Int) (rs : List RuleT) (lim : Int) : Int := if searchOk l rs lim then ((clTo rs lim (upTo l.toNat lim.toNat)).2 : Int) else -1
theorem letter_ok {k : Int} {x : Nat} (h : (x : Int) < k) (hk : k ≤ 4) : lettersOk k (letter (x : Int)) = true := by
  unfold lettersOk letter
  have : (97 + (x : Int)).toNat = 97 + x := by omega
  rw [this]
  have h1 : x = 0 ∨ x = 1 ∨ x = 2 ∨ x = 3 := by omega
  rw [List.all_eq_true]
  intro b hb
  have hb2 : b = UInt8.ofNat (97 + x) := List.mem_singleton.1 hb
  subst hb2
  have h2 : (UInt8.ofNat (97 + x)).toNat = 97 + x := by
    rcases h1 with rfl | rfl | rfl | rfl <;> rfl
  rw [h2]
  unfold inB
  rw [decide_eq_true (by omega), decide_eq_true (by omega)]
  rfl
theorem lvl_letters {L : Nat} (h : L ≤ 4) : ∀ k, ∀ s ∈ lvl L k, lettersOk (L : Int) s = true
  | 0 => fun s hs => by
    simp [lvl] at hs
    subst hs
    rfl
  | k + 1 => fun s hs => by
    rw [lvl] at hs
    unfold growL at hs
    obtain ⟨t, ht, hs⟩ := List.mem_flatMap.1 hs
    obtain ⟨x, hx, rfl⟩ := List.mem_map.1 hs
    exact letters_app (lvl_letters h k t ht) (letter_ok (by have := List.mem_range.1 hx; omega) (by omega))
theorem upTo_letters {L : Nat} (h : L ≤ 4) : ∀ k, ∀ s ∈ upTo L k, lettersOk (L : Int) s = true
  | 0 => fun s hs => by
    rw [upTo] at hs
    exact lvl_letters h 0 s hs
  | k + 1 => fun s hs => by
    rw [upTo, List.mem_append] at hs
    rcases hs with hs | hs
    · exact upTo_letters h k s hs
    · exact lvl_letters h (k + 1) s hs
theorem upTo_good {l : Int} (h1 : 1 ≤ l) (h4 : l ≤ 4) {k : Nat} (hk : k ≤ 8) : ∀ s ∈ upTo l.toNat k, good8 l s := fun s hs => by
  have e : ((l.toNat : Nat) : Int) = l := by omega
  have := upTo_letters (L := l.toNat) (by omega) k s hs
  rw [e] at this
  exact ⟨h4, this, Nat.le_trans (upTo_size k s hs) hk⟩
/-- How many words can have been seen. -/
theorem clTo_len {l : Int} {rs : List RuleT} {lim : Int} (hro : rulesOk l rs = true) (hl : lim ≤ 8) (ws : List ByteArray) (hg : ∀ s ∈ ws, good8 l s) (j : Nat) : (clTo rs lim (ws.take j)).1.length ≤ 131072 * j ∧ (clTo rs lim (ws.take j)).2 ≤ j := by
  induction j with
  | zero => simp [clTo]
  | succ j ih =>
    by_cases hj : j < ws.length
    · rw [List.take_succ_eq_append_getElem hj]
      cases hf : fnd (clTo rs lim (ws.take j)).1 ws[j] with
      | some i => rw [clTo_hit hf]; omega
      | none =>
        rw [clTo_new hf]
        have := srGood_len (srAll_good hro hl (hg _ (List.getElem_mem hj)))
        dsimp only
        rw [List.length_append, srWords_len]
        omega
    · rw [List.take_of_length_le (by omega)]
      rw [List.take_of_length_le (by omega)] at ih
      omega

end Go.Proofs.Ytidmbeeadbedaaa
