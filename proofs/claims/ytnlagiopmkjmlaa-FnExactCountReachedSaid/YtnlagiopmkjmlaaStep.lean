/- Walks over the laws' helpers for impl.Step: eqStep, eqStepS, markStepS, heldStepS and the readings of slices of them. -/
import Derived.Test.YtnlagiopmkjmlaaMark
import Derived.Test.YtnlagiopmkjmlaaApp
namespace Go.Proofs.Ytnlagiopmkjmlaa
open Go.RowKit Go.Shelf

abbrev StepT : Type := Int × Int
def encStep (x : StepT) : List Value := [.int .i64 x.1, .int .i64 x.2]
def cellsStep (xs : List StepT) : List Value := xs.flatMap encStep
theorem encStep_len (x : StepT) : (encStep x).length = 2 := rfl
theorem cellsStep_len (xs : List StepT) : (cellsStep xs).length = xs.length * 2 := flat_len (enc := encStep) (m := 2) (fun _ => rfl) xs
theorem info_Step : (Try.prog.info? 106).map (fun i => (i.zero, i.size, i.bytes)) = some (some (.agg #[.int .i64 0, .int .i64 0]), 2, 16) := by kernel_rfl

/-- The cells of element k. -/
theorem rd_Step {w : World} {A : Option Addr} {xs : List StepT} (h : Rd w A (cellsStep xs)) {k : Nat} (hk : k < xs.length) : ∃ b off, A = some ⟨b, off, none⟩ ∧ b < w.heap.size ∧
    w.cell? ⟨b, off + k * 2, none⟩ = some (.int .i64 xs[k].1) ∧ w.cell? ⟨b, off + k * 2 + 1, none⟩ = some (.int .i64 xs[k].2) := by
  have f0 := flat_get (enc := encStep) (m := 2) (fun _ => rfl) xs k 0 hk (by omega)
  obtain ⟨b, off, e, hb, hc⟩ := h (by intro e; unfold cellsStep at e; rw [e] at f0; cases f0)
  refine ⟨b, off, e, hb, ?_, ?_⟩
  · exact hc (k * 2) _ f0
  · exact hc (k * 2 + 1) _ (flat_get (enc := encStep) (m := 2) (fun _ => rfl) xs k 1 hk (by omega))

set_option maxRecDepth 100000 in
set_option maxHeartbeats 400000 in
theorem eqStep_any (x0 : Int) (x1 : Int) (y0 : Int) (y1 : Int) (w : World) :
    Calls Try.prog 134 #[.agg #[.int .i64 x0, .int .i64 x1], .agg #[.int .i64 y0, .int .i64 y1]] w (Kept w (.bool (decide (x0 = y0) && decide (x1 = y1)))) := by
  have e0 : (x0 == y0) = decide (x0 = y0) := rfl
  have i0 : (x0 != y0) = !decide (x0 = y0) := rfl
  have e1 : (x1 == y1) = decide (x1 = y1) := rfl
  have i1 : (x1 != y1) = !decide (x1 = y1) := rfl
  generalize decide (x0 = y0) = b0 at *
  generalize decide (x1 = y1) = b1 at *
  go_enter Try.func134, Try.ntmps134
  cases b0
  · go_wp2
    go_ret
    exact ⟨rfl, ((Below.refl _ _).alloc (Nat.le_refl _) _).alloc (by simp) _⟩
  cases b1
  · go_wp2
    go_ret
    exact ⟨rfl, ((Below.refl _ _).alloc (Nat.le_refl _) _).alloc (by simp) _⟩
  · go_wp2
    go_ret
    exact ⟨rfl, ((Below.refl _ _).alloc (Nat.le_refl _) _).alloc (by simp) _⟩




end Go.Proofs.Ytnlagiopmkjmlaa
