/- Walks over the laws' helpers for impl.Tag: toTag, szTag, eqTag, markTag, heldTag. -/
import Derived.Test.YtgceabbeeobmgaaDoorStr
import Derived.Test.YtgceabbeeobmgaaDoorApp2
namespace Go.Proofs.YtgceabbeeobmgaaDoor
open Go.RowKit Go.Shelf

/-- A struct of an int and a slice of the call's own. -/
def MadeTag (w : World) (l : Int) (n : Nat) (xs : List Value) (e : Ending) (w' : World) : Prop :=
  ∃ A c, e = .returned (.agg #[.int .i64 l, .slice A n c]) ∧ w'.ownsRow w.heap.size 9 1 (.slice A n c) n xs ∧ Below w.heap.size w w'

set_option maxRecDepth 100000 in
set_option maxHeartbeats 1000000 in
theorem toTag_any (l : Int) (A : Option Addr) (n c : Nat) (xs : List ByteArray) (w : World) (hr : Rd w A (strs xs)) (hn : n = xs.length) (hb : n ≤ 1048576) (hz : ∀ x ∈ xs, x.size ≤ 1048576) :
    Calls Tryd.prog 19 #[.agg #[.int .i64 l, .slice A n c]] w (MadeTag w l n (strs xs)) := by
  have Hn := Lib.hid hn
  clear hn
  go_enter Tryd.func19, Tryd.ntmps19
  go_wp2_with fail
  have hW0 : Below w.heap.size w (((w.alloc (.cells #[.int .i64 l, .slice A n c] 39)).alloc (.cells #[.int .i64 0, .slice none 0 0] 42)).alloc (.cells #[.int .i64 l, .slice none 0 0] 42)) :=
    (((Below.refl _ _).alloc (Nat.le_refl _) _).alloc (by simp) _).alloc (by simp; omega) _
  refine (toStringS_any A n c xs _ (hr.keep hW0) Hn.out hb hz).mono ?_
  rintro e w1 ⟨B, d, rfl, o1, b1⟩
  have hR : Bk w1 (w.heap.size + 1) 42 #[.int .i64 0, .slice none 0 0] := (((Bk.new (w.alloc (.cells #[.int .i64 l, .slice A n c] 39)) _ _).alloc _).below b1 (by simp)).cast (by simp)
  have hO : Bk w1 (w.heap.size + 1 + 1) 42 #[.int .i64 l, .slice none 0 0] := ((Bk.new ((w.alloc (.cells #[.int .i64 l, .slice A n c] 39)).alloc (.cells #[.int .i64 0, .slice none 0 0] 42)) _ _).below b1 (by simp)).cast (by simp)
  have c0 := hR.cell 0
  have c1 := hR.cell 1
  have f0 := hR.free 0
  have f1 := hR.free 1
  have d0 := hO.cell 0
  have d1 := hO.cell 1
  have g1 := hO.free 1
  simp at c0 c1 d0 d1
  have t1 := hW0.trans (b1.mono hW0.size)
  have hz1 : w.heap.size + 3 ≤ w1.heap.size := by have := b1.size; simp at this; omega
  go_wp2_with fail
  have hRn := ((hR.far (p := ⟨w.heap.size + 1 + 1, 1, none⟩) (by simp) (.slice B n d)).put 0 (.int .i64 l)).put 1 (.slice B n d)
  have q0 := hRn.cell 0
  have q1 := hRn.cell 1
  refine bodyPost_ret (v := .agg #[.int .i64 l, .slice B n d]) (by simp [results, Tryd.results19, go_sem, q0, q1]) rfl ?_
  have o2 := o1
  refine ⟨B, d, rfl, own_mono (b := w.heap.size + 3) ?_ (by omega), ((t1.setCell (by simp; omega) _).setCell (by simp) _).setCell (by simp) _⟩
  have o3 : w1.ownsRow (w.heap.size + 3) 9 1 (.slice B n d) n (strs xs) := by simpa using o1
  exact ownsRow_setCell_below (ownsRow_setCell_below (ownsRow_setCell_below o3 (a := ⟨w.heap.size + 1 + 1, 1, none⟩) (by simp) _) (a := ⟨w.heap.size + 1, 0, none⟩) (by simp) _) (a := ⟨w.heap.size + 1, 1, none⟩) (by simp) _

set_option maxRecDepth 100000 in
set_option maxHeartbeats 1000000 in
theorem szTag_any (l : Int) (A : Option Addr) (n c : Nat) (xs : List ByteArray) (left : Int) (w : World) (hr : Rd w A (strs xs)) (hn : n = xs.length) (hm : n ≤ maxLen) (h0 : 0 ≤ left) (h1 : left ≤ 1048576) (hz : ∀ x ∈ xs, x.size ≤ maxLen) :
    Calls Tryd.prog 17 #[.agg #[.int .i64 l, .slice A n c], .int .i64 left] w (Kept w (.int .i64 (szLeft left (totString xs : Nat)))) := by
  have Hn := Lib.hid hn
  clear hn
  go_enter Tryd.func17, Tryd.ntmps17
  go_wp2_with fail
  have hW0 : Below w.heap.size w (w.alloc (.cells #[.int .i64 l, .slice A n c] 39)) := (Below.refl _ _).alloc (Nat.le_refl _) _
  refine (szStringS_any A n c xs left _ (hr.keep hW0) Hn.out hm hz h0 h1).mono ?_
  rintro e w1 ⟨rfl, b1⟩
  have t1 := hW0.trans (b1.mono hW0.size)
  by_cases ht : (left : Int) - (totString xs : Nat) < 0
  · rw [szLeft, if_pos ht]
    go_wp2_with fail
    go_ret
    exact ⟨ret_int (by rw [szLeft, if_pos (by omega)]), t1⟩
  · rw [szLeft, if_neg ht]
    have ht' : (0 : Int) ≤ left - (totString xs : Nat) := by omega
    go_wp2_with fail
    go_ret
    exact ⟨ret_int (by rw [szLeft, if_neg (by omega)]), t1⟩

set_option maxRecDepth 100000 in
set_option maxHeartbeats 1000000 in
theorem eqTag_k (l : Int) (A : Option Addr) (n c : Nat) (xs : List ByteArray) (k : Int) (B : Option Addr) (m d : Nat) (ys : List ByteArray) (w : World) (hx : Rd w A (strs xs)) (hn : n = xs.length) (hb : n ≤ 9223372036854775807) (hy : Rd w B (strs ys)) (hm : m = ys.length) (hbm : m ≤ 9223372036854775807) :
    Calls Tryd.prog 21 #[.agg #[.int .i64 l, .slice A n c], .agg #[.int .i64 k, .slice B m d]] w (Kept w (.bool (decide (l = k) && decide (xs = ys)))) := by
  have e0 : (l == k) = decide (l = k) := rfl
  have i0 : (l != k) = !decide (l = k) := rfl
  generalize decide (l = k) = b0 at *
  have hW0 : Below w.heap.size w ((w.alloc (.cells #[.int .i64 l, .slice A n c] 42)).alloc (.cells #[.int .i64 k, .slice B m d] 42)) := ((Below.refl _ _).alloc (Nat.le_refl _) _).alloc (by simp) _
  have Hn := Lib.hid hn
  clear hn
  have Hm := Lib.hid hm
  clear hm
  go_enter Tryd.func21, Tryd.ntmps21
  cases b0
  · go_wp2
    go_ret
    exact ⟨rfl, hW0⟩
  · go_wp2_with fail
    refine (eqStringS_k A n c xs B m d ys _ (hx.keep hW0) Hn.out hb (hy.keep hW0) Hm.out hbm).mono ?_
    rintro e w1 ⟨rfl, b1⟩
    have t1 := hW0.trans (b1.mono hW0.size)
    obtain ⟨r, hrr⟩ : ∃ r', r' = (decide (xs = ys)) := ⟨_, rfl⟩
    rw [← hrr]
    have HR := Lib.hid hrr
    clear hrr
    cases r
    · go_wp2_with fail
      go_ret
      exact ⟨ret_bool (by rw [← HR.out]; rfl), t1⟩
    · go_wp2_with fail
      go_ret
      exact ⟨ret_bool (by rw [← HR.out]; rfl), t1⟩

end Go.Proofs.YtgceabbeeobmgaaDoor
