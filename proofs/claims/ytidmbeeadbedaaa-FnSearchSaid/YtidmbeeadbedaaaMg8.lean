/- Merged texts: a claim has a limit of files. -/
import Derived.Test.YtidmbeeadbedaaaMg7
import Derived.Test.YtidmbeeadbedaaaRepl
import Derived.Deep.RegionHeld3
import Derived.Test.YtidmbeeadbedaaaMg3
import Derived.Test.YtidmbeeadbedaaaMg1

/- The bytes and the length of what ReplaceAt makes. No walk, no condition. -/
namespace Go.Proofs.Ytidmbeeadbedaaa
open Go.RowKit Go.Shelf

theorem replS_bytes {s : ByteArray} {p n : Nat} {b : ByteArray} (h : replOk s p n b = true) : (replS s p n b).data.toList = (s.extract 0 p).data.toList ++ b.data.toList ++ (s.extract (p + n) s.size).data.toList := by
  rw [replS_yes h]
  have e : ((p : Int) + (n : Int)).toNat = p + n := by omega
  rw [e, Int.toNat_natCast, ByteArray.data_append, ByteArray.data_append]
  simp
theorem replS_size {s : ByteArray} {p n : Nat} {b : ByteArray} (h : replOk s p n b = true) : (replS s p n b).size ≤ 16 := by
  have h2 := replS_bytes h
  have h3 := congrArg List.length h2
  rw [bytes_len, List.length_append, List.length_append, bytes_len, bytes_len, bytes_len] at h3
  unfold replOk at h
  simp only [Bool.and_eq_true, decide_eq_true_eq] at h
  have e1 : (s.extract 0 p).size = p := by simp; omega
  have e2 : (s.extract (p + n) s.size).size = s.size - (p + n) := by simp
  omega

end Go.Proofs.Ytidmbeeadbedaaa

/- Plain words for reduction: a number of a word that every step of an ordered system lowers, and the steps from a word to the end with what they lead to. No walk, no condition. -/
namespace Go.Proofs.Ytidmbeeadbedaaa
open Go.RowKit Go.Shelf

def V4 (a : Nat) (bs : List UInt8) : Nat := bs.foldl (fun a b => a * 4 + (b.toNat - 97)) a
/-- The number of a word, by length and then by letters. -/
def val4 (s : ByteArray) : Nat := V4 1 s.data.toList
theorem V4_cons (a : Nat) (y : UInt8) (ys : List UInt8) : V4 a (y :: ys) = V4 (a * 4 + (y.toNat - 97)) ys := by unfold V4; rw [List.foldl_cons]
theorem V4_lo (a : Nat) (ys : List UInt8) : a * 4 ^ ys.length ≤ V4 a ys := by
  induction ys generalizing a with
  | nil => simp [V4]
  | cons y ys ih =>
    rw [V4_cons, List.length_cons, Nat.pow_succ]
    have h1 := ih (a * 4 + (y.toNat - 97))
    have h2 : (a * 4) * 4 ^ ys.length ≤ (a * 4 + (y.toNat - 97)) * 4 ^ ys.length := Nat.mul_le_mul_right _ (by omega)
    have h3 : a * (4 ^ ys.length * 4) = (a * 4) * 4 ^ ys.length := by rw [Nat.mul_comm (4 ^ ys.length) 4, Nat.mul_assoc]
    omega
theorem V4_hi (a : Nat) (ys : List UInt8) (h : ∀ b ∈ ys, b.toNat ≤ 100) : V4 a ys < (a + 1) * 4 ^ ys.length := by
  induction ys generalizing a with
  | nil => simp [V4]
  | cons y ys ih =>
    rw [V4_cons, List.length_cons, Nat.pow_succ]
    have h1 := ih (a * 4 + (y.toNat - 97)) (fun b hb => h b (List.mem_cons_of_mem _ hb))
    have h0 := h y List.mem_cons_self
    have h2 : (a * 4 + (y.toNat - 97) + 1) * 4 ^ ys.length ≤ ((a + 1) * 4) * 4 ^ ys.length := Nat.mul_le_mul_right _ (by omega)
    have h3 : (a + 1) * (4 ^ ys.length * 4) = ((a + 1) * 4) * 4 ^ ys.length := by rw [Nat.mul_comm (4 ^ ys.length) 4, Nat.mul_assoc]
    omega
theorem V4_short {a : Nat} (ha : 1 ≤ a) (r l : List UInt8) (hr : ∀ b ∈ r, b.toNat ≤ 100) (h : r.length < l.length) : V4 a r < V4 a l := by
  have h1 := V4_hi a r hr
  have h2 := V4_lo a l
  have h3 : (a + 1) * 4 ^ r.length ≤ (a * 4) * 4 ^ r.length := Nat.mul_le_mul_right _ (by omega)
  have h4 : (a * 4) * 4 ^ r.length = a * 4 ^ (r.length + 1) := by rw [Nat.pow_succ, Nat.mul_comm (4 ^ r.length) 4, Nat.mul_assoc]
  have h5 : a * 4 ^ (r.length + 1) ≤ a * 4 ^ l.length := Nat.mul_le_mul_left _ (Nat.pow_le_pow_right (by omega) h)
  omega
/-- A letter of a good word. -/
theorem letters_in {k : Int} {s : ByteArray} (hk : k ≤ 4) (h : lettersOk k s = true) : ∀ b ∈ s.data.toList, 97 ≤ b.toNat ∧ b.toNat ≤ 100 := fun b hb => by
  have := inB_out (List.all_eq_true.1 h b hb).symm
  omega
theorem wordOk_out {k : Int} {s : ByteArray} (h : wordOk k s = true) : 1 ≤ k ∧ k ≤ 4 ∧ s.size ≤ 16 ∧ lettersOk k s = true := by
  unfold wordOk at h
  simp only [Bool.and_eq_true, decide_eq_true_eq] at h
  have := inB_out h.1.1.symm
  exact ⟨this.1, this.2, h.1.2, h.2⟩
theorem has_parts {s l : ByteArray} {p : Nat} (h : hasAt s l p = true) : p + l.size ≤ s.size ∧ s.data.toList = (s.extract 0 p).data.toList ++ l.data.toList ++ (s.extract (p + l.size) s.size).data.toList := by
  unfold hasAt at h
  rw [Bool.and_eq_true, decide_eq_true_eq, beq_iff_eq, ByteArray.toList_eq, ByteArray.toList_eq] at h
  have hs := bytes_len s
  refine ⟨by omega, ?_⟩
  rw [← h.2]
  simp only [ByteArray.data_extract, Array.toList_extract]
  have hd : s.data.size = s.size := rfl
  rw [List.extract_eq_take_drop, List.extract_eq_take_drop, List.extract_eq_take_drop]
  simp only [List.drop_zero, Nat.sub_zero, Nat.add_sub_cancel_left]
  have e3 : (s.data.toList.drop (p + l.size)).take (s.size - (p + l.size)) = s.data.toList.drop (p + l.size) := by
    apply List.take_of_length_le
    rw [List.length_drop]; omega
  rw [e3, List.append_assoc]
  have e4 : List.take l.size (List.drop p s.data.toList) ++ List.drop (p + l.size) s.data.toList = List.drop p s.data.toList := by
    rw [← List.drop_drop, List.take_append_drop]
  rw [e4, List.take_append_drop]
end Go.Proofs.Ytidmbeeadbedaaa

/- Walks over IsReduced (the program's and the reference's): each returns what isReduced says, for all arguments. -/
namespace Go.Proofs.Ytidmbeeadbedaaa
open Go.RowKit Go.Shelf

theorem sys_rules {l : Int} {rs : List RuleT} (h : systemOk l rs = true) : rulesOk l rs = true := by
  unfold systemOk at h
  simp only [Bool.and_eq_true] at h
  exact h.1
end Go.Proofs.Ytidmbeeadbedaaa

/- Walks over the laws' helpers for impl.Link: eqLink, eqLinkS, markLinkS, heldLinkS and the readings of slices of them. -/
namespace Go.Proofs.Ytidmbeeadbedaaa
open Go.RowKit Go.Shelf

abbrev LinkT : Type := Int × Int × Bool
def encLink (x : LinkT) : List Value := [.int .i64 x.1, .int .i64 x.2.1, .bool x.2.2]
def cellsLink (xs : List LinkT) : List Value := xs.flatMap encLink
theorem cellsLink_len (xs : List LinkT) : (cellsLink xs).length = xs.length * 3 := flat_len (enc := encLink) (m := 3) (fun _ => rfl) xs
theorem info_Link : (Try.prog.info? 95).map (fun i => (i.zero, i.size, i.bytes)) = some (some (.agg #[.int .i64 0, .int .i64 0, .bool false]), 3, 24) := by kernel_rfl

/-- The cells of element k. -/
theorem rd_Link {w : World} {A : Option Addr} {xs : List LinkT} (h : Rd w A (cellsLink xs)) {k : Nat} (hk : k < xs.length) : ∃ b off, A = some ⟨b, off, none⟩ ∧ b < w.heap.size ∧
    w.cell? ⟨b, off + k * 3, none⟩ = some (.int .i64 xs[k].1) ∧ w.cell? ⟨b, off + k * 3 + 1, none⟩ = some (.int .i64 xs[k].2.1) ∧ w.cell? ⟨b, off + k * 3 + 2, none⟩ = some (.bool xs[k].2.2) := by
  have f0 := flat_get (enc := encLink) (m := 3) (fun _ => rfl) xs k 0 hk (by omega)
  obtain ⟨b, off, e, hb, hc⟩ := h (by intro e; unfold cellsLink at e; rw [e] at f0; cases f0)
  refine ⟨b, off, e, hb, ?_, ?_, ?_⟩
  · exact hc (k * 3) _ f0
  · exact hc (k * 3 + 1) _ (flat_get (enc := encLink) (m := 3) (fun _ => rfl) xs k 1 hk (by omega))
  · exact hc (k * 3 + 2) _ (flat_get (enc := encLink) (m := 3) (fun _ => rfl) xs k 2 hk (by omega))





end Go.Proofs.Ytidmbeeadbedaaa
