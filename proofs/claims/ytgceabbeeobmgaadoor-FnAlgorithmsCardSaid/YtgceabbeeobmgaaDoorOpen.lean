/- Arguments opened: how the parameters of the laws read, as values and cells, for the rows' proofs. -/








import Derived.Test.YtgceabbeeobmgaaDoorBase
import Derived.ProofKit
import Derived.OpenShut
import Derived.ShutString
import Derived.ChangeOld
import Derived.Deep.Slices
import Derived.Deep.Fields
import Derived.Lib.SmallJoins
namespace Go.Proofs.YtgceabbeeobmgaaDoor

open Go.ChangeShapes Go.WideShapes Go.ChangeAt Go.RowKit Go.Shelf

theorem own_knob : ownKnob Tryd.prog.godebug = none := by kernel_rfl
theorem laid_out : laidOutB Tryd.prog = true := by kernel_rfl

theorem cell_spot {w : World} {a : Addr} {v : Value} (h : w.cell? a = some v) : a = ⟨a.block, a.off, none⟩ ∧ a.block < w.heap.size := by
  refine ⟨?_, World.block_lt_of_cell? w a h⟩
  unfold World.cell? at h
  split at h
  · split at h
    · cases h
    · next hs =>
      obtain ⟨b, o, s⟩ := a
      simp at hs
      subst hs
      rfl
  · cases h

theorem rd_of_cells {w : World} {a : Addr} {xs : List Value} (h : ∀ j u, xs[j]? = some u → w.cell? (a.add j) = some u) : Rd w (some a) xs := fun hn => by
  obtain ⟨x, t, rfl⟩ := List.exists_cons_of_ne_nil hn
  have h0 := h 0 x rfl
  have e0 : a.add 0 = a := by unfold Addr.add; simp
  rw [e0] at h0
  obtain ⟨e, hl⟩ := cell_spot h0
  refine ⟨a.block, a.off, by rw [← e], hl, fun j u hu => ?_⟩
  have hj := h j u hu
  have ea : a.add j = ⟨a.block, a.off + j, none⟩ := by
    rw [e]
    unfold Addr.add
    by_cases hz : j = 0 <;> simp [hz]
  rw [ea] at hj
  exact hj

section

variable {H : Type} {enc : TypeId × Value → H} {w : World} {base : Nat} {spare : Nat → Bool} {held : Bool}
end

end Go.Proofs.YtgceabbeeobmgaaDoor
