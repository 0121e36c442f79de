/- Walks over LastStep of the reference, and FarForm (the program's and the reference's). -/
import Derived.Test.YtnlagiopmkjmlaaNorm
namespace Go.Proofs.Ytnlagiopmkjmlaa
open Go.RowKit Go.Shelf

def bestStep (b : Option StepT) (x : StepT) : Option StepT := match b with
  | none => some x
  | some y => if y.2 < x.2 then some x else some y
/-- The first of the steps with the greatest place. -/
def bestF (xs : List StepT) : Option StepT := xs.foldl bestStep none
theorem bestF_snoc (xs : List StepT) (x : StepT) : bestF (xs ++ [x]) = bestStep (bestF xs) x := by unfold bestF; rw [List.foldl_append]; rfl
theorem fold_row {p : Int} (xs : List StepT) (h : ∀ x ∈ xs, x.2 = p) (y : StepT) (hy : y.2 = p) : xs.foldl bestStep (some y) = some y := by
  induction xs with
  | nil => rfl
  | cons x xs ih =>
    have hx := h x List.mem_cons_self
    rw [List.foldl_cons, bestStep, if_neg (by omega)]
    exact ih (fun z hz => h z (List.mem_cons_of_mem x hz))
theorem fold_later {p : Int} (xs : List StepT) (h : ∀ x ∈ xs, x.2 = p) (b : Option StepT) (hb : ∀ y, b = some y → y.2 < p) : xs.foldl bestStep b = xs.head?.or b := by
  cases xs with
  | nil => rfl
  | cons x xs =>
    have hx := h x List.mem_cons_self
    have hs : bestStep b x = some x := by
      cases b with
      | none => rfl
      | some y => have := hb y rfl; rw [bestStep, if_pos (by omega)]
    rw [List.foldl_cons, hs]
    exact fold_row xs (fun z hz => h z (List.mem_cons_of_mem x hz)) x hx
theorem row_place {rs : List RuleT} {s : ByteArray} {i j : Nat} : ∀ x ∈ stepRow rs s i j, x.2 = (i : Int) := fun x hx => by
  unfold stepRow at hx
  simp only [List.mem_map] at hx
  obtain ⟨k, -, rfl⟩ := hx
  rfl
theorem bestF_acc (rs : List RuleT) (s : ByteArray) (i : Nat) : bestF (stepAcc rs s i) = lastTo rs s i := by
  induction i with
  | zero => rfl
  | succ i ih =>
    rw [stepAcc_succ, stepTo, bestF, List.foldl_append, lastTo]
    have e : (stepAcc rs s i).foldl bestStep none = lastTo rs s i := ih
    rw [e]
    refine fold_later _ row_place _ (fun y hy => ?_)
    obtain ⟨k, p, rfl, -, hp, -⟩ := mem_step (lastTo_mem hy)
    dsimp only
    omega




end Go.Proofs.Ytnlagiopmkjmlaa
