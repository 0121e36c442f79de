/- Merged texts: a claim has a limit of files. -/
import Derived.Test.YtidmbeeadbedaaaLoop
import Derived.Test.YtidmbeeadbedaaaMg8
import Derived.Test.YtidmbeeadbedaaaNorm
import Derived.Test.YtidmbeeadbedaaaSearchOk
import Derived.Test.YtidmbeeadbedaaaNormP
import Derived.Deep.AppendLies

/- Plain words for the search: what is reached from a word, in which order, and how many words there can be. No walk, no condition. -/
namespace Go.Proofs.Ytidmbeeadbedaaa
open Go.RowKit Go.Shelf

/-- A word of at most eight good letters. -/
def good8 (k : Int) (s : ByteArray) : Prop := k ≤ 4 ∧ lettersOk k s = true ∧ s.size ≤ 8
/-- A word that is reached, the place of that before it, the link, and how far it is. -/
abbrev SrT : Type := ByteArray × Int × LinkT × Int
def srWords (S : List SrT) : List ByteArray := S.map (·.1)
def srAt (S : List SrT) (a : Nat) : SrT := S.getD a (⟨#[]⟩, 0, (0, 0, false), 0)
theorem srWords_len (S : List SrT) : (srWords S).length = S.length := by simp [srWords]
theorem srAt_app {S T : List SrT} {a : Nat} (h : a < S.length) : srAt (S ++ T) a = srAt S a := by
  unfold srAt
  rw [List.getD_eq_getElem?_getD, List.getD_eq_getElem?_getD, List.getElem?_append_left h]
theorem letters_app {k : Int} {a b : ByteArray} (ha : lettersOk k a = true) (hb : lettersOk k b = true) : lettersOk k (a ++ b) = true := by
  unfold lettersOk at *
  rw [ByteArray.data_append, Array.toList_append, List.all_append, ha, hb]; rfl
theorem letters_ext {k : Int} {s : ByteArray} (h : lettersOk k s = true) (i j : Nat) : lettersOk k (s.extract i j) = true := by
  unfold lettersOk at *
  rw [List.all_eq_true] at *
  intro b hb
  refine h b ?_
  rw [ByteArray.data_extract, Array.toList_extract, List.extract_eq_take_drop] at hb
  exact List.mem_of_mem_drop (List.mem_of_mem_take hb)
end Go.Proofs.Ytidmbeeadbedaaa

/- Walks over l15Search of the reference: the words that are reached, in order, with what is known of each. -/
namespace Go.Proofs.Ytidmbeeadbedaaa
open Go.RowKit Go.Shelf

/-- A row of the call's own in block g. -/
def OwnG (w : World) (g base : Nat) (t : TypeId) (m n : Nat) (xs : List Value) (c : Nat) : Prop := w.ownsRow base t m (.slice (some ⟨g, 0, none⟩) n c) n xs ∧ g < w.heap.size
theorem OwnG.grown {w w' : World} {g base : Nat} {t : TypeId} {m n : Nat} {xs : List Value} {c : Nat} (h : OwnG w g base t m n xs c) {row : Nat} (hg : w.grownBy w' (some row)) (hne : g ≠ row) : OwnG w' g base t m n xs c :=
  ⟨h.1.kept hg (.inr (by simp [Value.ownBlock]; exact hne)), Nat.lt_of_lt_of_le h.2 hg.size⟩
theorem OwnG.below {w w' : World} {g base : Nat} {t : TypeId} {m n : Nat} {xs : List Value} {c : Nat} (h : OwnG w g base t m n xs c) (hb : Below w.heap.size w w') : OwnG w' g base t m n xs c :=
  ⟨own_keep h.1 hb (Nat.le_refl _), Nat.lt_of_lt_of_le h.2 hb.size⟩
theorem OwnG.rd {w : World} {g base : Nat} {t : TypeId} {m n : Nat} {xs : List Value} {c : Nat} (h : OwnG w g base t m n xs c) : Rd w (some ⟨g, 0, none⟩) xs := Rd.of_own h.1
theorem OwnG.new (w : World) (t : TypeId) (cs : Array Value) (base n m : Nat) (hb : base ≤ w.heap.size) (hs : cs.size = n * m) (hm : n ≤ maxLen) : OwnG (w.alloc (.cells cs t)) w.heap.size base t m n cs.toList n :=
  ⟨own_of_bk (Bk.new w t cs) hb hs hm, by simp⟩
theorem OwnG.cast {w : World} {g g' base : Nat} {t : TypeId} {m n : Nat} {xs : List Value} {c : Nat} (h : OwnG w g base t m n xs c) (e : g = g') : OwnG w g' base t m n xs c := e ▸ h
theorem OwnG.alloc {w : World} {g base : Nat} {t : TypeId} {m n : Nat} {xs : List Value} {c : Nat} (h : OwnG w g base t m n xs c) (o : Obj) : OwnG (w.alloc o) g base t m n xs c := h.below ((Below.refl _ _).alloc (Nat.le_refl _) o)
theorem OwnG.cell {w : World} {g base : Nat} {t : TypeId} {m n : Nat} {xs : List Value} {c : Nat} (h : OwnG w g base t m n xs c) {j : Nat} {u : Value} (hu : xs[j]? = some u) : w.cell? ⟨g, j, none⟩ = some u := by
  obtain ⟨b, o, e, _, hc⟩ := h.rd (by intro e; rw [e] at hu; cases hu)
  injection e with e
  injection e with e1 e2
  subst e1 e2
  have := hc j u hu
  rwa [Nat.zero_add] at this

end Go.Proofs.Ytidmbeeadbedaaa
