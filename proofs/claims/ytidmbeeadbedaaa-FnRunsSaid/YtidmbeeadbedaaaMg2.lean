/- Merged texts: a claim has a limit of files. -/
import Derived.Test.YtidmbeeadbedaaaBase
import Derived.ProofKit
import Derived.OpenShut
import Derived.ShutString
import Derived.ChangeOld
import Derived.Deep.Slices
import Derived.Deep.Fields
import Derived.Lib.SmallJoins

/- Arguments opened: how the parameters of the laws read, as values and cells, for the rows' proofs. -/
namespace Go.Proofs.Ytidmbeeadbedaaa
open Go.ChangeShapes Go.WideShapes Go.ChangeAt Go.RowKit Go.Shelf

theorem own_knob : ownKnob Try.prog.godebug = none := by kernel_rfl
theorem laid_out : laidOutB Try.prog = true := by kernel_rfl

theorem cell_spot {w : World} {a : Addr} {v : Value} (h : w.cell? a = some v) : a = ⟨a.block, a.off, none⟩ ∧ a.block < w.heap.size := by
  refine ⟨?_, World.block_lt_of_cell? w a h⟩
  unfold World.cell? at h
  split at h
  · split at h
    · cases h
    · next hs =>
      obtain ⟨b, o, s⟩ := a
      simp at hs
      subst hs
      rfl
  · cases h

theorem rd_of_cells {w : World} {a : Addr} {xs : List Value} (h : ∀ j u, xs[j]? = some u → w.cell? (a.add j) = some u) : Rd w (some a) xs := fun hn => by
  obtain ⟨x, t, rfl⟩ := List.exists_cons_of_ne_nil hn
  have h0 := h 0 x rfl
  have e0 : a.add 0 = a := by unfold Addr.add; simp
  rw [e0] at h0
  obtain ⟨e, hl⟩ := cell_spot h0
  refine ⟨a.block, a.off, by rw [← e], hl, fun j u hu => ?_⟩
  have hj := h j u hu
  have ea : a.add j = ⟨a.block, a.off + j, none⟩ := by
    rw [e]
    unfold Addr.add
    by_cases hz : j = 0 <;> simp [hz]
  rw [ea] at hj
  exact hj

section
variable {H : Type} {enc : TypeId × Value → H} {w : World} {base : Nat} {spare : Nat → Bool} {held : Bool}
end

end Go.Proofs.Ytidmbeeadbedaaa

/- Walks over within, l01In, allWithin, slices.IndexFunc and ContainsFunc at []int, and both WeightsOk: each returns what wtsOk says, for all arguments. -/
namespace Go.Proofs.Ytidmbeeadbedaaa
open Go.RowKit Go.Shelf

set_option maxHeartbeats 400000 in
theorem l01In_any (n lo hi : Int) (w : World) :
    Calls Try.prog 128 #[.int .i64 n, .int .i64 lo, .int .i64 hi] w fun e w' => e = .returned (.bool (inB n lo hi)) ∧ w = w' := by
  unfold inB
  by_cases h1 : lo ≤ n <;> by_cases h2 : n ≤ hi
  all_goals
    go_enter Try.func128, Try.ntmps128
    go_wp2
    go_ret
    exact ⟨by simp [*], rfl⟩

set_option maxHeartbeats 400000 in
theorem within_any (n lo hi : Int) (w : World) :
    Calls Try.prog 106 #[.int .i64 n, .int .i64 lo, .int .i64 hi] w fun e w' => e = .returned (.bool (inB n lo hi)) ∧ w = w' := by
  unfold inB
  by_cases h1 : lo ≤ n <;> by_cases h2 : n ≤ hi
  all_goals
    go_enter Try.func106, Try.ntmps106
    go_wp2
    go_ret
    exact ⟨by simp [*], rfl⟩

end Go.Proofs.Ytidmbeeadbedaaa
