/- Walks over both AddWeights: each returns the sums, for all arguments. -/
import Derived.Test.YtidmbeeadbedaaaDoorWts
import Derived.Test.YtidmbeeadbedaaaDoorApp
namespace Go.Proofs.YtidmbeeadbedaaaDoor
open Go.RowKit Go.Shelf

def addOk (m : Int) (xs ys : List Int) : Bool := wtsOk m xs && wtsOk m ys && decide (xs.length = ys.length)
def addS (m : Int) (xs ys : List Int) : List Int := List.zipWith (fun x y => (x + y) % m) xs ys
/-- The sums, or nothing. -/
def addW (m : Int) (xs ys : List Int) : List Int := if addOk m xs ys then addS m xs ys else []
theorem addW_no {m : Int} {xs ys : List Int} (h : addOk m xs ys = false) : addW m xs ys = [] := by unfold addW; rw [h]; rfl
theorem addW_yes {m : Int} {xs ys : List Int} (h : addOk m xs ys = true) : addW m xs ys = addS m xs ys := by unfold addW; rw [h]; rfl

theorem addW_len (m : Int) (xs ys : List Int) : (addW m xs ys).length ≤ 1048576 := by
  unfold addW
  split
  · next h =>
    unfold addOk wtsOk at h
    simp only [Bool.and_eq_true] at h
    have := inB_out h.1.1.1.2.symm
    unfold addS
    rw [List.length_zipWith]
    omega
  · simp

theorem wts_bounds {m : Int} {xs : List Int} (h : wtsOk m xs = true) : 1 ≤ m ∧ m ≤ 12 ∧ 1 ≤ xs.length ∧ xs.length ≤ 4 ∧ ∀ k (hk : k < xs.length), 0 ≤ xs[k] ∧ xs[k] ≤ m - 1 := by
  unfold wtsOk at h
  simp only [Bool.and_eq_true, List.all_eq_true] at h
  obtain ⟨⟨h1, h2⟩, h3⟩ := h
  have h1 := inB_out h1.symm
  have h2 := inB_out h2.symm
  refine ⟨h1.1, h1.2, by omega, by omega, fun k hk => ?_⟩
  have := inB_out (h3 xs[k] (List.getElem_mem hk)).symm
  omega



end Go.Proofs.YtidmbeeadbedaaaDoor
