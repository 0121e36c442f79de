/- Merged texts: a claim has a limit of files. -/
import Derived.Test.YtnlagiopmkjmlaaStepsP
import Derived.Test.YtnlagiopmkjmlaaMark
import Derived.Test.YtnlagiopmkjmlaaMg2

/- The bytes and the length of what ReplaceAt makes. No walk, no condition. -/
namespace Go.Proofs.Ytnlagiopmkjmlaa
open Go.RowKit Go.Shelf

theorem replS_bytes {s : ByteArray} {p n : Nat} {b : ByteArray} (h : replOk s p n b = true) : (replS s p n b).data.toList = (s.extract 0 p).data.toList ++ b.data.toList ++ (s.extract (p + n) s.size).data.toList := by
  rw [replS_yes h]
  have e : ((p : Int) + (n : Int)).toNat = p + n := by omega
  rw [e, Int.toNat_natCast, ByteArray.data_append, ByteArray.data_append]
  simp
theorem replS_size {s : ByteArray} {p n : Nat} {b : ByteArray} (h : replOk s p n b = true) : (replS s p n b).size ≤ 16 := by
  have h2 := replS_bytes h
  have h3 := congrArg List.length h2
  rw [bytes_len, List.length_append, List.length_append, bytes_len, bytes_len, bytes_len] at h3
  unfold replOk at h
  simp only [Bool.and_eq_true, decide_eq_true_eq] at h
  have e1 : (s.extract 0 p).size = p := by simp; omega
  have e2 : (s.extract (p + n) s.size).size = s.size - (p + n) := by simp
  omega

end Go.Proofs.Ytnlagiopmkjmlaa

/- Walks over the laws' helpers for slices of strings: toStringS, eqStringS, markStringS, heldStringS, szStringS. -/
namespace Go.Proofs.Ytnlagiopmkjmlaa
open Go.RowKit Go.Shelf

def strs (ss : List ByteArray) : List Value := ss.map Value.string
theorem strs_get (ss : List ByteArray) (k : Nat) (h : k < ss.length) : (strs ss)[k]? = some (.string ss[k]) := by simp [strs, h]
theorem strs_len (ss : List ByteArray) : (strs ss).length = ss.length := by simp [strs]
theorem info_str : (Try.prog.info? 9).map (fun i => (i.zero, i.size, i.bytes)) = some (some (.string ⟨#[]⟩), 1, 16) := by kernel_rfl
/-- A slice of strings that came in. -/
def OpenSlStrs (w : World) (A : Option Addr) (n : Nat) (ss : List ByteArray) : Prop := Rd w A (strs ss) ∧ n = ss.length ∧ n ≤ maxLen ∧ ∀ s ∈ ss, s.size ≤ maxLen






end Go.Proofs.Ytnlagiopmkjmlaa
