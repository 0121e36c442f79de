/- Merged texts: a claim has a limit of files. -/
import Derived.Test.YtidmbeeadbedaaaMg2
import Derived.Deep.RegionHeld3
import Derived.StillTailTactics
import Derived.Test.YtidmbeeadbedaaaMg1
import Derived.Deep.RegionLaw
import Derived.Lib.Join

/- The laws' markText: the text of a mark, a plain function of its number; and cells of slices of structs. -/
namespace Go.Proofs.Ytidmbeeadbedaaa
open Go.RowKit Go.Shelf

/-- 'string([]byte{x})': the slice of one byte that has just been laid. -/
theorem conv_byte (w : World) (x : Int) :
    (convert 22 9 (.slice (some ⟨w.heap.size, 0, none⟩) 1 1)).run Try.prog (w.alloc (.cells #[.int .u8 x] 5)) = .ok (.string ⟨#[UInt8.ofNat x.toNat]⟩) (w.alloc (.cells #[.int .u8 x] 5)) := by
  rw [run_convert_bytes_string _ _ _ _ _ _ _ Try.underlying22 Try.underlying5 Try.underlying9]
  rw [run_bytesToString _ _ _ _ [x] ?_]
  · rfl
  · simp [loadCells, loadCellsFrom, go_sem]

theorem str_eq (x y : ByteArray) : (x.toList == y.toList) = decide (x = y) := by
  rw [Bool.eq_iff_iff, beq_iff_eq, decide_eq_true_iff]
  constructor
  · intro h
    rw [ByteArray.toList_eq, ByteArray.toList_eq] at h
    exact ByteArray.ext (Array.toList_inj.1 h)
  · intro h; rw [h]

theorem flat_len {α : Type} {enc : α → List Value} {m : Nat} (hm : ∀ x, (enc x).length = m) (xs : List α) : (xs.flatMap enc).length = xs.length * m := by
  induction xs with
  | nil => simp
  | cons x t ih => simp [List.flatMap_cons, hm, ih, Nat.add_mul, Nat.add_comm]
theorem flat_get {α : Type} {enc : α → List Value} {m : Nat} (hm : ∀ x, (enc x).length = m) (xs : List α) (i f : Nat) (hi : i < xs.length) (hf : f < m) : (xs.flatMap enc)[i * m + f]? = (enc xs[i])[f]? := by
  induction xs generalizing i with
  | nil => simp at hi
  | cons x t ih =>
    rw [List.flatMap_cons]
    cases i with
    | zero => rw [List.getElem?_append_left (by rw [hm]; omega)]; simp
    | succ i =>
      rw [List.getElem?_append_right (by rw [hm, Nat.add_mul]; omega), hm]
      have e : (i + 1) * m + f - m = i * m + f := by rw [Nat.add_mul]; omega
      rw [e, ih i (by simpa using hi)]
      simp

/-- ... and the other way round. -/
theorem own_apart' {w1 w2 : World} {b1 b2 : Nat} {t1 t2 : TypeId} {m1 m2 n1 n2 : Nat} {v1 v2 : Value} {xs1 xs2 : List Value} (h1 : w1.ownsRow b1 t1 m1 v1 n1 xs1) (h2 : w2.ownsRow b2 t2 m2 v2 n2 xs2) (hb : w2.heap.size ≤ b1) :
    v1.ownBlock = none ∨ v1.ownBlock ≠ v2.ownBlock := by
  cases e : v1.ownBlock with
  | none => exact .inl rfl
  | some g =>
    refine .inr fun e2 => ?_
    have := (h1.lt g e).1
    have := (h2.lt g e2.symm).2
    omega
end Go.Proofs.Ytidmbeeadbedaaa

/- Walks over the laws' helpers for slices of strings: toStringS, eqStringS, markStringS, heldStringS, szStringS. -/
namespace Go.Proofs.Ytidmbeeadbedaaa
open Go.RowKit Go.Shelf

def strs (ss : List ByteArray) : List Value := ss.map Value.string
theorem strs_get (ss : List ByteArray) (k : Nat) (h : k < ss.length) : (strs ss)[k]? = some (.string ss[k]) := by simp [strs, h]
theorem strs_len (ss : List ByteArray) : (strs ss).length = ss.length := by simp [strs]
theorem info_str : (Try.prog.info? 9).map (fun i => (i.zero, i.size, i.bytes)) = some (some (.string ⟨#[]⟩), 1, 16) := by kernel_rfl
end Go.Proofs.Ytidmbeeadbedaaa

/- Walks over dotted, l03Side, Join of the reference and FormatOrders of both: both give the same text. -/
namespace Go.Proofs.Ytidmbeeadbedaaa
open Go.RowKit Go.Shelf

def dot (s : ByteArray) : ByteArray := if s = ⟨#[]⟩ then ⟨#[46]⟩ else s
theorem one_cell_strF (x : ByteArray) : ∀ u ∈ (#[Value.string x] : Array Value).toList, u.oneCell' = true := by
  intro u hu
  simp at hu
  subst hu
  rfl
theorem rd_StrG {w : World} {A : Option Addr} {xs : List ByteArray} (h : Rd w A (strs xs)) {k : Nat} (hk : k < xs.length) : ∃ b off, A = some ⟨b, off, none⟩ ∧ b < w.heap.size ∧ w.cell? ⟨b, off + k, none⟩ = some (.string xs[k]) := by
  have f0 := strs_get xs k hk
  obtain ⟨b, off, e, hb, hc⟩ := h (by intro e; rw [e] at f0; cases f0)
  exact ⟨b, off, e, hb, hc k _ f0⟩
theorem dot_size {s : ByteArray} {k : Nat} (h : s.size ≤ k) (hk : 1 ≤ k) : (dot s).size ≤ k := by
  unfold dot
  split
  · exact hk
  · exact h
theorem ba_eq {a b : ByteArray} (h : a.data.toList = b.data.toList) : a = b := by
  cases a; cases b; simp_all
set_option maxRecDepth 100000 in
theorem specDot_any (s : ByteArray) (w : World) : Calls Try.prog 206 #[.string s] w (fun e w' => e = .returned (.string (dot s)) ∧ w' = w) := by
  have hq : s.toList.isEmpty = decide (s = ⟨#[]⟩) := by
    rw [← str_eq, show (⟨#[]⟩ : ByteArray).toList = [] by rw [ByteArray.toList_eq]]
    cases s.toList <;> rfl
  go_enter Try.func206, Try.ntmps206
  by_cases h : s = ⟨#[]⟩
  · rw [decide_eq_true h] at hq
    have e1 : dot s = ⟨#[46]⟩ := if_pos h
    rw [e1]
    clear h
    go_wp2_with fail
    go_ret
    exact ⟨rfl, rfl⟩
  · rw [decide_eq_false h] at hq
    have e1 : dot s = s := if_neg h
    rw [e1]
    clear h
    go_wp2_with fail
    go_ret
    exact ⟨rfl, rfl⟩


theorem own_capF {w : World} {base : Nat} {t : TypeId} {m n c : Nat} {A : Option Addr} {xs : List Value} (h : w.ownsRow base t m (.slice A n c) n xs) : n ≤ c := by
  rcases h.2 with ⟨h1, h2⟩ | ⟨g, cap, cur, hv, _, _, hc, _⟩
  · injection h1 with _ h3 h4; omega
  · injection hv with _ _ h4
    omega

theorem own_drewF {w : World} {base : Nat} {t : TypeId} {m n : Nat} {v : Value} {xs : List Value} (h : w.ownsRow base t m v n xs) : w.drew.ownsRow base t m v n xs := h


end Go.Proofs.Ytidmbeeadbedaaa
