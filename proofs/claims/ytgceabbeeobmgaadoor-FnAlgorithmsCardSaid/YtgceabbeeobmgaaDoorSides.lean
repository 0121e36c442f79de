/- Walks over SidesOk (the program's and the reference's): each returns what sidesOk says, for all arguments. -/


import Derived.Test.YtgceabbeeobmgaaDoorWord
import Derived.Test.YtgceabbeeobmgaaDoorApp2
namespace Go.Proofs.YtgceabbeeobmgaaDoor

open Go.RowKit Go.Shelf

/-- SidesOk, in plain words. -/
def sidesOk (k : Int) (x y : ByteArray) : Bool := wordOk k x && wordOk k y && decide (x.size ≤ 8) && decide (y.size ≤ 8)

set_option maxRecDepth 100000 in
set_option maxHeartbeats 1000000 in
theorem implSides_any (k : Int) (x y : ByteArray) (w : World) (hx : x.size ≤ 9223372036854775807) (hy : y.size ≤ 9223372036854775807) :
    Calls Tryd.prog 38 #[.int .i64 k, .agg #[.string x, .string y]] w (Kept w (.bool (sidesOk k x y))) := by
  have hW : Below w.heap.size w (w.alloc (.cells #[.string x, .string y] 66)) := (Below.refl _ _).alloc (Nat.le_refl _) _
  go_enter Tryd.func38, Tryd.ntmps38
  go_wp2_with fail
  refine (implWord_any k x _ hx).mono ?_
  rintro e w' ⟨rfl, rfl⟩
  obtain ⟨r1, hrr⟩ : ∃ r', r' = (wordOk k x) := ⟨_, rfl⟩
  rw [← hrr]
  have H1 := Lib.hid hrr
  clear hrr
  cases r1
  · go_wp2_with fail
    go_ret
    exact ⟨ret_bool (by rw [sidesOk, ← H1.out]; rfl), hW⟩
  go_wp2_with fail
  refine (implWord_any k y _ hy).mono ?_
  rintro e w' ⟨rfl, rfl⟩
  obtain ⟨r2, hrr⟩ : ∃ r', r' = (wordOk k y) := ⟨_, rfl⟩
  rw [← hrr]
  have H2 := Lib.hid hrr
  clear hrr
  cases r2
  · go_wp2_with fail
    go_ret
    exact ⟨ret_bool (by rw [sidesOk, ← H1.out, ← H2.out]; rfl), hW⟩
  by_cases h3 : x.size ≤ 8
  · by_cases h4 : y.size ≤ 8
    · go_wp2_with fail
      go_ret
      exact ⟨ret_bool (by rw [sidesOk, ← H1.out, ← H2.out, decide_eq_true h3, decide_eq_true h4]; simp; omega), hW⟩
    · go_wp2_with fail
      go_ret
      exact ⟨ret_bool (by rw [sidesOk, ← H1.out, ← H2.out, decide_eq_true h3, decide_eq_false h4]; simp; omega), hW⟩
  · go_wp2_with fail
    go_ret
    exact ⟨ret_bool (by rw [sidesOk, ← H1.out, ← H2.out, decide_eq_false h3]; rfl), hW⟩

end Go.Proofs.YtgceabbeeobmgaaDoor
