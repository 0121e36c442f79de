/- Merged texts: a claim has a limit of files. -/
import Derived.Test.YtidmbeeadbedaaaSysOk
import Derived.Test.YtidmbeeadbedaaaMg5

/- Walks over l04Ok of the reference and takes of the program: whether a system is ordered and a word has its letters. -/
namespace Go.Proofs.Ytidmbeeadbedaaa
open Go.RowKit Go.Shelf

def takesOk (l : Int) (rs : List RuleT) (s : ByteArray) : Bool := systemOk l rs && wordOk l s

set_option maxRecDepth 100000 in
set_option maxHeartbeats 1000000 in
theorem implTakes_any (l : Int) (A : Option Addr) (n c : Nat) (xs : List RuleT) (s : ByteArray) (w : World) (hr : Rd w A (cellsRule xs)) (hn : n = xs.length) (hb : n ≤ 1048576) (hz : ∀ x ∈ xs, x.1.size ≤ 1048576 ∧ x.2.size ≤ 1048576) (hs : s.size ≤ 1048576) :
    Calls Try.prog 90 #[.agg #[.int .i64 l, .slice A n c], .string s] w (Kept w (.bool (takesOk l xs s))) := by
  have hW0 : Below w.heap.size w (w.alloc (.cells #[.int .i64 l, .slice A n c] 25)) := (Below.refl _ _).alloc (Nat.le_refl _) _
  have hS0 := Bk.new w 25 #[.int .i64 l, .slice A n c]
  have Hr := Lib.hid hr
  clear hr
  have Hn := Lib.hid hn
  clear hn
  have Hz := Lib.hid hz
  clear hz
  go_enter Try.func90, Try.ntmps90
  go_wp2_with fail
  with_reducible refine (implSystemOk_any l A n c xs _ (Hr.out.keep hW0) Hn.out hb Hz.out).mono ?_
  rintro e w1 ⟨rfl, b1⟩
  have hW1 := hW0.trans (b1.mono hW0.size)
  have hS1 := hS0.below b1 hS0.lt
  have s0_1 : w1.cell? ⟨w.heap.size, 0, none⟩ = some (.int .i64 l) := by rw [hS1.cell]; rfl
  have s1_1 : w1.cell? ⟨w.heap.size, 1, none⟩ = some (.slice A n c) := by rw [hS1.cell]; rfl
  have sl_1 := hS1.lt
  clear b1
  obtain ⟨r1, hrr⟩ : ∃ r', r' = (systemOk l xs) := ⟨_, rfl⟩
  rw [← hrr]
  have H1 := Lib.hid hrr
  clear hrr
  cases r1
  · go_wp2_with fail
    go_ret
    exact ⟨ret_bool (by rw [takesOk, ← H1.out]; rfl), hW1⟩
  go_wp2_with fail
  refine (implWord_any l s _ (by omega)).mono ?_
  rintro e w2 ⟨rfl, rfl⟩
  obtain ⟨r2, hrr⟩ : ∃ r', r' = (wordOk l s) := ⟨_, rfl⟩
  rw [← hrr]
  have H2 := Lib.hid hrr
  clear hrr
  go_wp2_with fail
  go_ret
  exact ⟨ret_bool (by rw [takesOk, ← H1.out, ← H2.out]; rfl), hW1⟩

end Go.Proofs.Ytidmbeeadbedaaa

/- The bytes and the length of what ReplaceAt makes. No walk, no condition. -/
namespace Go.Proofs.Ytidmbeeadbedaaa
open Go.RowKit Go.Shelf

theorem replS_bytes {s : ByteArray} {p n : Nat} {b : ByteArray} (h : replOk s p n b = true) : (replS s p n b).data.toList = (s.extract 0 p).data.toList ++ b.data.toList ++ (s.extract (p + n) s.size).data.toList := by
  rw [replS_yes h]
  have e : ((p : Int) + (n : Int)).toNat = p + n := by omega
  rw [e, Int.toNat_natCast, ByteArray.data_append, ByteArray.data_append]
  simp
theorem replS_size {s : ByteArray} {p n : Nat} {b : ByteArray} (h : replOk s p n b = true) : (replS s p n b).size ≤ 16 := by
  have h2 := replS_bytes h
  have h3 := congrArg List.length h2
  rw [bytes_len, List.length_append, List.length_append, bytes_len, bytes_len, bytes_len] at h3
  unfold replOk at h
  simp only [Bool.and_eq_true, decide_eq_true_eq] at h
  have e1 : (s.extract 0 p).size = p := by simp; omega
  have e2 : (s.extract (p + n) s.size).size = s.size - (p + n) := by simp
  omega

end Go.Proofs.Ytidmbeeadbedaaa
