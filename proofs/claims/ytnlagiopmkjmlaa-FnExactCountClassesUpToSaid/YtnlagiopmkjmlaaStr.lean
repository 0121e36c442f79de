/- Walks over the laws' helpers for slices of strings: toStringS, eqStringS, markStringS, heldStringS, szStringS. -/
import Derived.Test.YtnlagiopmkjmlaaMark
import Derived.Test.YtnlagiopmkjmlaaApp
namespace Go.Proofs.Ytnlagiopmkjmlaa
open Go.RowKit Go.Shelf

def strs (ss : List ByteArray) : List Value := ss.map Value.string
theorem strs_get (ss : List ByteArray) (k : Nat) (h : k < ss.length) : (strs ss)[k]? = some (.string ss[k]) := by simp [strs, h]
theorem strs_len (ss : List ByteArray) : (strs ss).length = ss.length := by simp [strs]
theorem info_str : (Try.prog.info? 9).map (fun i => (i.zero, i.size, i.bytes)) = some (some (.string ⟨#[]⟩), 1, 16) := by kernel_rfl
/-- A slice of strings that came in. -/
def OpenSlStrs (w : World) (A : Option Addr) (n : Nat) (ss : List ByteArray) : Prop := Rd w A (strs ss) ∧ n = ss.length ∧ n ≤ maxLen ∧ ∀ s ∈ ss, s.size ≤ maxLen






end Go.Proofs.Ytnlagiopmkjmlaa
