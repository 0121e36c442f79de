/- Walks over AlgorithmOk (the program's and the reference's): each returns what algOk says, for all arguments. -/


import Derived.Test.YtgceabbeeobmgaaDoorSides
import Derived.Test.YtgceabbeeobmgaaDoorOrderF
namespace Go.Proofs.YtgceabbeeobmgaaDoor

open Go.RowKit Go.Shelf

/-- AlgorithmOk, in plain words. -/
def algOk (xs : List OrderT) : Bool := decide (xs.length ≤ 12) && xs.all (fun o => sidesOk 4 o.1 o.2.1)

theorem algOk1_any (x : OrderT) (w : World) (h : x.1.size ≤ 1048576 ∧ x.2.1.size ≤ 1048576) :
    Calls Tryd.prog 37 (#[evOrder x] ++ #[]) w (Kept w (.bool (!sidesOk 4 x.1 x.2.1))) := by
  obtain ⟨x0, x1, x2⟩ := x
  dsimp only at h
  obtain ⟨h0, h1⟩ := h
  show Calls Tryd.prog 37 #[.agg #[.string x0, .string x1, .bool x2]] w _
  have hW : Below w.heap.size w (w.alloc (.cells #[.string x0, .string x1, .bool x2] 58)) := (Below.refl _ _).alloc (Nat.le_refl _) _
  go_enter Tryd.func37, Tryd.ntmps37
  go_wp2_with fail
  refine (implSides_any 4 x0 x1 _ (by omega) (by omega)).mono ?_
  rintro e w' ⟨rfl, b1⟩
  obtain ⟨r, hrr⟩ : ∃ r', r' = (sidesOk 4 x0 x1) := ⟨_, rfl⟩
  rw [← hrr]
  have HR := Lib.hid hrr
  clear hrr
  go_wp2_with fail
  go_ret
  exact ⟨ret_bool (by rw [HR.out]), hW.trans (b1.mono hW.size)⟩

set_option maxRecDepth 100000 in
set_option maxHeartbeats 1000000 in
theorem implAlgorithmOk_any (A : Option Addr) (n c : Nat) (xs : List OrderT) (w : World) (hr : Rd w A (cellsOrder xs)) (hn : n = xs.length) (hb : n ≤ 1048576) (hz : ∀ x ∈ xs, x.1.size ≤ 1048576 ∧ x.2.1.size ≤ 1048576) :
    Calls Tryd.prog 16 #[.slice A n c] w (Kept w (.bool (algOk xs))) := by
  have hmf : ∀ (fn : Fn) (first cap : Array Value) (w : World), (Instr.makeFunc fn first cap).run Tryd.prog w = .ok (.func fn first cap) w := fun _ _ _ _ => rfl
  have eg := enters_of Tryd.func37 (by kernel_rfl) rfl
  by_cases h12 : n ≤ 12
  · have e12 : decide (xs.length ≤ 12) = true := by rw [← hn]; exact decide_eq_true h12
    have Hn := Lib.hid hn
    clear hn
    have E12 := Lib.hid e12
    clear e12
    go_enter Tryd.func16, Tryd.ntmps16
    go_wp2_with fail
    refine (containsFunc_Order A n c xs _ #[] (fun o => !sidesOk 4 o.1 o.2.1) _ eg hr Hn.out (by omega) (fun W x hx _ => algOk1_any x W (hz x hx))).mono ?_
    rintro e w1 ⟨rfl, b1⟩
    obtain ⟨r, hrr⟩ : ∃ r', r' = (xs.any (fun o => !sidesOk 4 o.1 o.2.1)) := ⟨_, rfl⟩
    rw [← hrr]
    have HR := Lib.hid hrr
    clear hrr
    go_wp2_with fail
    go_ret
    exact ⟨ret_bool (by rw [algOk, E12.out, HR.out, ← not_any_not]; rfl), b1⟩
  · have e12 : decide (xs.length ≤ 12) = false := by rw [← hn]; exact decide_eq_false h12
    have Hn := Lib.hid hn
    clear hn
    have E12 := Lib.hid e12
    clear e12
    go_enter Tryd.func16, Tryd.ntmps16
    go_wp2_with fail
    go_ret
    exact ⟨ret_bool (by rw [algOk, E12.out]; rfl), Below.refl _ _⟩

end Go.Proofs.YtgceabbeeobmgaaDoor
