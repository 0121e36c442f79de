/- Merged texts: a claim has a limit of files. -/
import Derived.Test.YtidmbeeadbedaaaMg3
import Derived.Test.YtidmbeeadbedaaaMg1
import Derived.Test.YtidmbeeadbedaaaRepl
import Derived.Deep.RegionHeld3
import Derived.Test.YtidmbeeadbedaaaLess
import Derived.Test.YtidmbeeadbedaaaMg6

/- Walks over the laws' helpers for impl.Link: eqLink, eqLinkS, markLinkS, heldLinkS and the readings of slices of them. -/
namespace Go.Proofs.Ytidmbeeadbedaaa
open Go.RowKit Go.Shelf

abbrev LinkT : Type := Int × Int × Bool
def encLink (x : LinkT) : List Value := [.int .i64 x.1, .int .i64 x.2.1, .bool x.2.2]
def cellsLink (xs : List LinkT) : List Value := xs.flatMap encLink
theorem cellsLink_len (xs : List LinkT) : (cellsLink xs).length = xs.length * 3 := flat_len (enc := encLink) (m := 3) (fun _ => rfl) xs
end Go.Proofs.Ytidmbeeadbedaaa

/- Walks over ChainOf, IsProof and PeakOf (the program's and the reference's). -/
namespace Go.Proofs.Ytidmbeeadbedaaa
open Go.RowKit Go.Shelf

theorem one_cell_str (a : ByteArray) : ∀ u ∈ (#[Value.string a] : Array Value).toList, u.oneCell' = true := by intro u hu; simp at hu; subst hu; rfl
theorem strs_snoc (xs : List ByteArray) (x : ByteArray) : strs (xs ++ [x]) = strs xs ++ [.string x] := by simp [strs]
theorem rd_Str {w : World} {A : Option Addr} {xs : List ByteArray} (h : Rd w A (strs xs)) {k : Nat} (hk : k < xs.length) : ∃ b off, A = some ⟨b, off, none⟩ ∧ b < w.heap.size ∧ w.cell? ⟨b, off + k, none⟩ = some (.string xs[k]) := by
  have f0 := strs_get xs k hk
  obtain ⟨b, off, e, hb, hc⟩ := h (by intro e; rw [e] at f0; cases f0)
  exact ⟨b, off, e, hb, hc k _ f0⟩
end Go.Proofs.Ytidmbeeadbedaaa
