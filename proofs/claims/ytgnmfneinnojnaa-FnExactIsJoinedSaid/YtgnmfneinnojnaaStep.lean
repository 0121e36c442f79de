/- Walks over the laws' helpers for impl.Step: eqStep, eqStepS, markStepS, heldStepS and the readings of slices of them. -/
import Derived.Test.YtgnmfneinnojnaaMark
import Derived.Test.YtgnmfneinnojnaaApp
namespace Go.Proofs.Ytgnmfneinnojnaa
open Go.RowKit Go.Shelf

abbrev StepT : Type := Int × Int
def encStep (x : StepT) : List Value := [.int .i64 x.1, .int .i64 x.2]
def cellsStep (xs : List StepT) : List Value := xs.flatMap encStep
theorem encStep_len (x : StepT) : (encStep x).length = 2 := rfl
theorem cellsStep_len (xs : List StepT) : (cellsStep xs).length = xs.length * 2 := flat_len (enc := encStep) (m := 2) (fun _ => rfl) xs
theorem info_Step : (Try.prog.info? 78).map (fun i => (i.zero, i.size, i.bytes)) = some (some (.agg #[.int .i64 0, .int .i64 0]), 2, 16) := by kernel_rfl

/-- The cells of element k. -/
theorem rd_Step {w : World} {A : Option Addr} {xs : List StepT} (h : Rd w A (cellsStep xs)) {k : Nat} (hk : k < xs.length) : ∃ b off, A = some ⟨b, off, none⟩ ∧ b < w.heap.size ∧
    w.cell? ⟨b, off + k * 2, none⟩ = some (.int .i64 xs[k].1) ∧ w.cell? ⟨b, off + k * 2 + 1, none⟩ = some (.int .i64 xs[k].2) := by
  have f0 := flat_get (enc := encStep) (m := 2) (fun _ => rfl) xs k 0 hk (by omega)
  obtain ⟨b, off, e, hb, hc⟩ := h (by intro e; unfold cellsStep at e; rw [e] at f0; cases f0)
  refine ⟨b, off, e, hb, ?_, ?_⟩
  · exact hc (k * 2) _ f0
  · exact hc (k * 2 + 1) _ (flat_get (enc := encStep) (m := 2) (fun _ => rfl) xs k 1 hk (by omega))





end Go.Proofs.Ytgnmfneinnojnaa
