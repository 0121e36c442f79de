/- Plain words for FarthestWord and CountClassesUpTo. No walk, no condition. -/
import Derived.Test.YtidmbeeadbedaaaShort
import Derived.Test.YtidmbeeadbedaaaLoop
import Derived.Test.YtidmbeeadbedaaaMg9
import Derived.Test.YtidmbeeadbedaaaMg4
import Derived.Test.YtidmbeeadbedaaaMg3
import Derived.Test.YtidmbeeadbedaaaLess
namespace Go.Proofs.Ytidmbeeadbedaaa
open Go.RowKit Go.Shelf

def fwStep (S : List SrT) (b j : Nat) : Nat := if (srAt S b).2.2.2 < (srAt S j).2.2.2 ∨ ((srAt S j).2.2.2 = (srAt S b).2.2.2 ∧ lessW (srAt S j).1 (srAt S b).1 = true) then j else b
def fwTo (S : List SrT) : Nat → Nat
  | 0 => 0
  | j + 1 => fwStep S (fwTo S j) j
theorem fwTo_lt {S : List SrT} (h : 0 < S.length) : ∀ j, j ≤ S.length → fwTo S j < S.length
  | 0, _ => h
  | j + 1, hj => by
    have := fwTo_lt h j (by omega)
    rw [fwTo, fwStep]
    split
    · omega
    · exact this
theorem fwTo_gt {S : List SrT} {j b : Nat} (hb : b = fwTo S j) (h : (srAt S b).2.2.2 < (srAt S j).2.2.2) : fwTo S (j + 1) = j := by rw [fwTo, ← hb, fwStep, if_pos (.inl h)]
theorem fwTo_lt2 {S : List SrT} {j b : Nat} (hb : b = fwTo S j) (h : (srAt S j).2.2.2 < (srAt S b).2.2.2) : fwTo S (j + 1) = b := by
  rw [fwTo, ← hb, fwStep, if_neg]
  rintro (h1 | ⟨h1, _⟩) <;> omega
theorem fwTo_less {S : List SrT} {j b : Nat} (hb : b = fwTo S j) (h : (srAt S j).2.2.2 = (srAt S b).2.2.2) (hl : lessW (srAt S j).1 (srAt S b).1 = true) : fwTo S (j + 1) = j := by rw [fwTo, ← hb, fwStep, if_pos (.inr ⟨h, hl⟩)]
theorem fwTo_not {S : List SrT} {j b : Nat} (hb : b = fwTo S j) (h : (srAt S j).2.2.2 = (srAt S b).2.2.2) (hl : lessW (srAt S j).1 (srAt S b).1 = false) : fwTo S (j + 1) = b := by
  rw [fwTo, ← hb, fwStep, if_neg]
  rintro (h1 | ⟨_, h1⟩)
  · omega
  · rw [hl] at h1; cases h1
theorem srGo_le {rs : List RuleT} {lim : Int} : ∀ (f a : Nat) (S : List SrT), S.length ≤ (srGo rs lim f a S).length
  | 0, _, _ => Nat.le_refl _
  | f + 1, a, S => by
    rw [srGo]
    split
    · refine Nat.le_trans ?_ (srGo_le f (a + 1) _)
      have : ∀ (xs : List LinkT) (T : List SrT), T.length ≤ (srRow rs a T xs).length := by
        intro xs
        induction xs with
        | nil => intro T; exact Nat.le_refl _
        | cons x xs ih => intro T; exact Nat.le_trans (srAdd_le rs a T x) (ih _)
      exact this _ _
    · exact Nat.le_refl _
theorem srAll_pos (rs : List RuleT) (s : ByteArray) (lim : Int) : 0 < (srAll rs s lim).length := Nat.lt_of_lt_of_le (by simp) (srGo_le _ _ _)
/-- FarthestWord, in plain words. -/
def fwAt (rs : List RuleT) (s : ByteArray) (lim : Int) : Nat := fwTo (srAll rs s lim) (srAll rs s lim).length
def fwS (l : Int) (rs : List RuleT) (s : ByteArray) (lim : Int) : ByteArray := if searched l rs s lim then (srAt (srAll rs s lim) (fwAt rs s lim)).1 else ⟨#[]⟩
def fwF (l : Int) (rs : List RuleT) (s : ByteArray) (lim : Int) : Int := if searched l rs s lim then (srAt (srAll rs s lim) (fwAt rs s lim)).2.2.2 else -1
end Go.Proofs.Ytidmbeeadbedaaa
