/- A slice of bytes that came in, opened. -/

import Derived.Test.YtgceabbeeobmgaaDoorMkB
namespace Go.Proofs.YtgceabbeeobmgaaDoor

open Go.ChangeShapes Go.WideShapes Go.ChangeAt Go.RowKit Go.Shelf

section

variable {H : Type} {enc : TypeId × Value → H} {w : World} {base : Nat} {spare : Nat → Bool} {held : Bool}
/-- A slice of bytes that came in. -/
theorem open_byteS {a : Option Addr} {n c : Nat} {d : DataW H} {p : List MemPlace} (h : DataW.Trod enc Tryd.prog w 0 (fun _ => true) true 22 (.slice a n c) d p) :
    ∃ zs : List Int, Rd w a (u8c zs) ∧ n = zs.length ∧ n ≤ maxLen ∧ ∀ z ∈ zs, (Lit.int .u8 z).wf = true := by
  obtain ⟨fuel, hf⟩ := h
  rcases open_ints Tryd.underlying22 Tryd.underlying5 (by kernel_rfl) hf with ⟨hcs, _⟩ | ⟨x, l, cc, zs, hcs, _, hl, hm, hz, _, hcell, hwz⟩
  · simp [Value.cells] at hcs
    obtain ⟨rfl, rfl, rfl⟩ := hcs
    exact ⟨[], Rd.nil _ _, rfl, by unfold maxLen; omega, by simp⟩
  · simp [Value.cells] at hcs
    obtain ⟨rfl, rfl, rfl⟩ := hcs
    have hz' : zs.length = c := by simpa using hz
    refine ⟨zs.take n, rd_of_cells fun j u hu => ?_, by rw [List.length_take]; omega, Nat.le_trans hl hm, fun z hz => hwz z (List.mem_of_mem_take hz)⟩
    simp only [u8c, List.getElem?_map, List.getElem?_take] at hu
    split at hu
    · have hj : j < zs.length := by omega
      rw [hcell j hj]
      simp [hj] at hu ⊢
      exact hu
    · simp at hu
end
theorem byte_wf {z : Int} (h : (Lit.int .u8 z).wf = true) : 0 ≤ z ∧ z ≤ 255 := by
  have e1 : IntKind.u8.min = 0 := rfl
  have e2 : IntKind.u8.max = 255 := rfl
  simp [Lit.wf, e1, e2] at h
  exact h

end Go.Proofs.YtgceabbeeobmgaaDoor
