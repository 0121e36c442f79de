/- Merged texts: a claim has a limit of files. -/
import Derived.Test.YtnlagiopmkjmlaaMark
import Derived.Test.YtnlagiopmkjmlaaApp
import Derived.Test.YtnlagiopmkjmlaaInt

/- Walks over the laws' helpers for impl.Step: eqStep, eqStepS, markStepS, heldStepS and the readings of slices of them. -/
namespace Go.Proofs.Ytnlagiopmkjmlaa
open Go.RowKit Go.Shelf

abbrev StepT : Type := Int × Int
def encStep (x : StepT) : List Value := [.int .i64 x.1, .int .i64 x.2]
def cellsStep (xs : List StepT) : List Value := xs.flatMap encStep
theorem encStep_len (x : StepT) : (encStep x).length = 2 := rfl
theorem cellsStep_len (xs : List StepT) : (cellsStep xs).length = xs.length * 2 := flat_len (enc := encStep) (m := 2) (fun _ => rfl) xs
theorem info_Step : (Try.prog.info? 106).map (fun i => (i.zero, i.size, i.bytes)) = some (some (.agg #[.int .i64 0, .int .i64 0]), 2, 16) := by kernel_rfl

/-- The cells of element k. -/
theorem rd_Step {w : World} {A : Option Addr} {xs : List StepT} (h : Rd w A (cellsStep xs)) {k : Nat} (hk : k < xs.length) : ∃ b off, A = some ⟨b, off, none⟩ ∧ b < w.heap.size ∧
    w.cell? ⟨b, off + k * 2, none⟩ = some (.int .i64 xs[k].1) ∧ w.cell? ⟨b, off + k * 2 + 1, none⟩ = some (.int .i64 xs[k].2) := by
  have f0 := flat_get (enc := encStep) (m := 2) (fun _ => rfl) xs k 0 hk (by omega)
  obtain ⟨b, off, e, hb, hc⟩ := h (by intro e; unfold cellsStep at e; rw [e] at f0; cases f0)
  refine ⟨b, off, e, hb, ?_, ?_⟩
  · exact hc (k * 2) _ f0
  · exact hc (k * 2 + 1) _ (flat_get (enc := encStep) (m := 2) (fun _ => rfl) xs k 1 hk (by omega))

set_option maxRecDepth 100000 in
set_option maxHeartbeats 400000 in
theorem eqStep_any (x0 : Int) (x1 : Int) (y0 : Int) (y1 : Int) (w : World) :
    Calls Try.prog 134 #[.agg #[.int .i64 x0, .int .i64 x1], .agg #[.int .i64 y0, .int .i64 y1]] w (Kept w (.bool (decide (x0 = y0) && decide (x1 = y1)))) := by
  have e0 : (x0 == y0) = decide (x0 = y0) := rfl
  have i0 : (x0 != y0) = !decide (x0 = y0) := rfl
  have e1 : (x1 == y1) = decide (x1 = y1) := rfl
  have i1 : (x1 != y1) = !decide (x1 = y1) := rfl
  generalize decide (x0 = y0) = b0 at *
  generalize decide (x1 = y1) = b1 at *
  go_enter Try.func134, Try.ntmps134
  cases b0
  · go_wp2
    go_ret
    exact ⟨rfl, ((Below.refl _ _).alloc (Nat.le_refl _) _).alloc (by simp) _⟩
  cases b1
  · go_wp2
    go_ret
    exact ⟨rfl, ((Below.refl _ _).alloc (Nat.le_refl _) _).alloc (by simp) _⟩
  · go_wp2
    go_ret
    exact ⟨rfl, ((Below.refl _ _).alloc (Nat.le_refl _) _).alloc (by simp) _⟩




end Go.Proofs.Ytnlagiopmkjmlaa

/- Walks over within, l01In, allWithin, slices.IndexFunc and ContainsFunc at []int, and both WeightsOk: each returns what wtsOk says, for all arguments. -/
namespace Go.Proofs.Ytnlagiopmkjmlaa
open Go.RowKit Go.Shelf

set_option maxHeartbeats 400000 in
theorem l01In_any (n lo hi : Int) (w : World) :
    Calls Try.prog 98 #[.int .i64 n, .int .i64 lo, .int .i64 hi] w fun e w' => e = .returned (.bool (inB n lo hi)) ∧ w = w' := by
  unfold inB
  by_cases h1 : lo ≤ n <;> by_cases h2 : n ≤ hi
  all_goals
    go_enter Try.func98, Try.ntmps98
    go_wp2
    go_ret
    exact ⟨by simp [*], rfl⟩

set_option maxHeartbeats 400000 in
theorem within_any (n lo hi : Int) (w : World) :
    Calls Try.prog 101 #[.int .i64 n, .int .i64 lo, .int .i64 hi] w fun e w' => e = .returned (.bool (inB n lo hi)) ∧ w = w' := by
  unfold inB
  by_cases h1 : lo ≤ n <;> by_cases h2 : n ≤ hi
  all_goals
    go_enter Try.func101, Try.ntmps101
    go_wp2
    go_ret
    exact ⟨by simp [*], rfl⟩

/-- WeightsOk, in plain words. -/
def wtsOk (m : Int) (zs : List Int) : Bool := inB m 1 12 && inB zs.length 1 4 && zs.all (fun x => inB x 0 (m - 1))

end Go.Proofs.Ytnlagiopmkjmlaa

/- Walks over both AddWeights: each returns the sums, for all arguments. -/
namespace Go.Proofs.Ytnlagiopmkjmlaa
open Go.RowKit Go.Shelf

def addOk (m : Int) (xs ys : List Int) : Bool := wtsOk m xs && wtsOk m ys && decide (xs.length = ys.length)
def addS (m : Int) (xs ys : List Int) : List Int := List.zipWith (fun x y => (x + y) % m) xs ys
/-- The sums, or nothing. -/
def addW (m : Int) (xs ys : List Int) : List Int := if addOk m xs ys then addS m xs ys else []
theorem addW_no {m : Int} {xs ys : List Int} (h : addOk m xs ys = false) : addW m xs ys = [] := by unfold addW; rw [h]; rfl
theorem addW_yes {m : Int} {xs ys : List Int} (h : addOk m xs ys = true) : addW m xs ys = addS m xs ys := by unfold addW; rw [h]; rfl

theorem addW_len (m : Int) (xs ys : List Int) : (addW m xs ys).length ≤ 1048576 := by
  unfold addW
  split
  · next h =>
    unfold addOk wtsOk at h
    simp only [Bool.and_eq_true] at h
    have := inB_out h.1.1.1.2.symm
    unfold addS
    rw [List.length_zipWith]
    omega
  · simp

theorem wts_bounds {m : Int} {xs : List Int} (h : wtsOk m xs = true) : 1 ≤ m ∧ m ≤ 12 ∧ 1 ≤ xs.length ∧ xs.length ≤ 4 ∧ ∀ k (hk : k < xs.length), 0 ≤ xs[k] ∧ xs[k] ≤ m - 1 := by
  unfold wtsOk at h
  simp only [Bool.and_eq_true, List.all_eq_true] at h
  obtain ⟨⟨h1, h2⟩, h3⟩ := h
  have h1 := inB_out h1.symm
  have h2 := inB_out h2.symm
  refine ⟨h1.1, h1.2, by omega, by omega, fun k hk => ?_⟩
  have := inB_out (h3 xs[k] (List.getElem_mem hk)).symm
  omega



end Go.Proofs.Ytnlagiopmkjmlaa
