/- Merged texts: a claim has a limit of files. -/
import Derived.Test.YtidmbeeadbedaaaMg17
import Derived.Test.YtidmbeeadbedaaaMg18
import Derived.Test.YtidmbeeadbedaaaNormP
import Derived.Test.YtidmbeeadbedaaaMg15
import Derived.Test.YtidmbeeadbedaaaMg3
import Derived.Test.YtidmbeeadbedaaaMg4
import Derived.Test.YtidmbeeadbedaaaMg1
import Derived.Lib.IndexMore
import Derived.Test.YtidmbeeadbedaaaMg9
import Derived.Test.YtidmbeeadbedaaaMg2
import Derived.Test.YtidmbeeadbedaaaMg7
import Derived.Test.YtidmbeeadbedaaaMg11
import Derived.Test.YtidmbeeadbedaaaMg12
import Derived.Deep.RegionLaw
import Derived.Test.YtidmbeeadbedaaaApLink

/- Walk over MakeRules of the reference: rules of two letters that are in order, in memory of their own. -/
namespace Go.Proofs.Ytidmbeeadbedaaa
open Go.RowKit Go.Shelf

theorem sorts2_sys : systemOk 2 (sorts 2) = true := by decide +kernel
end Go.Proofs.Ytidmbeeadbedaaa

/- Plain theory of rewriting: words that are connected have one reduced form, if both sides of each critical pair are connected below its word. No walk, no condition. -/
namespace Go.Proofs.Ytidmbeeadbedaaa
open Go.RowKit Go.Shelf

abbrev WL : Type := List UInt8
/-- u comes before v in the order of words, whatever stands around. -/
def Prec (u v : WL) : Prop := ∀ s, 1 ≤ s → V4 s u < V4 s v
theorem Prec.trans {u v w : WL} (h : Prec u v) (k : Prec v w) : Prec u w := fun s hs => Nat.lt_trans (h s hs) (k s hs)
abbrev RL : Type := List (WL × WL)
def Red (R : RL) (u v : WL) : Prop := ∃ a b q, q ∈ R ∧ u = a ++ q.1 ++ b ∧ v = a ++ q.2 ++ b
inductive Star (R : RL) : WL → WL → Prop
  | refl (u : WL) : Star R u u
  | step {u v w : WL} : Red R u v → Star R v w → Star R u w
theorem Star.trans {R : RL} {u v w : WL} (h : Star R u v) (k : Star R v w) : Star R u w := by
  induction h with
  | refl u => exact k
  | step a _ ih => exact .step a (ih k)
/-- Connected, each step's greater word below w. -/
inductive CB (R : RL) (w : WL) : WL → WL → Prop
  | refl (x : WL) : CB R w x x
  | fwd {x y z : WL} : CB R w x y → Red R y z → Prec y w → CB R w x z
  | bwd {x y z : WL} : CB R w x y → Red R z y → Prec z w → CB R w x z
theorem CB.trans {R : RL} {w x y z : WL} (h : CB R w x y) (k : CB R w y z) : CB R w x z := by
  induction k with
  | refl => exact h
  | fwd _ a b ih => exact .fwd (ih) a b
  | bwd _ a b ih => exact .bwd (ih) a b
theorem CB.symm {R : RL} {w x y : WL} (h : CB R w x y) : CB R w y x := by
  induction h with
  | refl => exact .refl _
  | fwd _ a b ih => exact CB.trans (.bwd (.refl _) a b) ih
  | bwd _ a b ih => exact CB.trans (.fwd (.refl _) a b) ih
end Go.Proofs.Ytidmbeeadbedaaa

/- The plain theory of rewriting joined to the program's words: a complete system has one reduced form for connected words. No walk, no condition. -/
namespace Go.Proofs.Ytidmbeeadbedaaa
open Go.RowKit Go.Shelf

theorem take_extract (s : ByteArray) (p : Nat) : (s.extract 0 p).data.toList = s.data.toList.take p := by
  rw [ByteArray.data_extract, Array.toList_extract, List.extract_eq_take_drop, List.drop_zero, Nat.sub_zero]
theorem drop_extract (s : ByteArray) (p : Nat) : (s.extract p s.size).data.toList = s.data.toList.drop p := by
  rw [ByteArray.data_extract, Array.toList_extract, List.extract_eq_take_drop]
  exact List.take_of_length_le (by rw [List.length_drop, bytes_len]; exact Nat.le_refl _)
theorem mid_extract (s : ByteArray) (p n : Nat) : (s.extract p (p + n)).data.toList = (s.data.toList.drop p).take n := by
  rw [ByteArray.data_extract, Array.toList_extract, List.extract_eq_take_drop, Nat.add_sub_cancel_left]
theorem hasAt_parts {s l : ByteArray} {a b : WL} (h : s.data.toList = a ++ l.data.toList ++ b) : hasAt s l a.length = true := by
  have hs := bytes_len s
  have hl := bytes_len l
  rw [h, List.length_append, List.length_append, hl] at hs
  unfold hasAt
  rw [Bool.and_eq_true, decide_eq_true_eq, beq_iff_eq, ByteArray.toList_eq, ByteArray.toList_eq, mid_extract, h, List.append_assoc, List.drop_left, ← hl, List.take_left]
  exact ⟨by omega, rfl⟩
theorem repl_parts {s l r : ByteArray} {a b : WL} (h : s.data.toList = a ++ l.data.toList ++ b) (ho : replOk s (a.length : Nat) (l.size : Nat) r = true) : (replS s (a.length : Nat) (l.size : Nat) r).data.toList = a ++ r.data.toList ++ b := by
  rw [replS_bytes ho, take_extract, drop_extract, h, List.append_assoc a, List.take_left]
  have e : a.length + l.size = (a ++ l.data.toList).length := by rw [List.length_append, bytes_len]
  rw [e, ← List.append_assoc a l.data.toList b, List.drop_left, List.append_assoc]
theorem bytes_inj {s t : ByteArray} (h : s.data.toList = t.data.toList) : s = t := by
  cases s; cases t; simp_all
theorem repl_ok {s r : ByteArray} {p n : Nat} (h1 : p + n ≤ s.size) (h2 : s.size - n + r.size ≤ 16) : replOk s (p : Nat) (n : Nat) r = true := by
  unfold replOk
  simp only [Bool.and_eq_true, decide_eq_true_eq]
  omega
end Go.Proofs.Ytidmbeeadbedaaa
