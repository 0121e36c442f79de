/- Walks over OppositeTable (the program's and the reference's): both hand back the same table. -/
import Derived.Test.YtgnmfneinnojnaaTabOk
import Derived.Test.YtgnmfneinnojnaaApp2
import Derived.Deep.RegionLaw
namespace Go.Proofs.Ytgnmfneinnojnaa
open Go.RowKit Go.Shelf

/-- The first i rows of a square of n columns. -/
def gridAcc (f : Nat → Nat → Int) (n i : Nat) : List Int := (List.range i).flatMap fun q => (List.range n).map (f q)
/-- The first i rows, and k entries of row i. -/
def gridTo (f : Nat → Nat → Int) (n i k : Nat) : List Int := gridAcc f n i ++ (List.range k).map (f i)
theorem gridTo_zero (f : Nat → Nat → Int) (n i : Nat) : gridTo f n i 0 = gridAcc f n i := by simp [gridTo]
theorem gridTo_succ (f : Nat → Nat → Int) (n i k : Nat) : gridTo f n i (k + 1) = gridTo f n i k ++ [f i k] := by rw [gridTo, gridTo, List.range_succ, List.map_append, List.append_assoc]; rfl
theorem gridAcc_succ (f : Nat → Nat → Int) (n i : Nat) : gridAcc f n (i + 1) = gridTo f n i n := by rw [gridAcc, List.range_succ, List.flatMap_append, gridTo]; simp [gridAcc]
theorem gridAcc_len (f : Nat → Nat → Int) (n i : Nat) : (gridAcc f n i).length = i * n := by
  induction i with
  | zero => simp [gridAcc]
  | succ i ih => rw [gridAcc_succ, gridTo, List.length_append, ih]; simp [Nat.succ_mul]
theorem gridTo_len (f : Nat → Nat → Int) (n i k : Nat) : (gridTo f n i k).length = i * n + k := by rw [gridTo, List.length_append, gridAcc_len]; simp

/-- A table in memory of the call's own, and a bool. -/
def MadeTab (w : World) (l : Int) (n : Nat) (xs : List Int) (b : Bool) (e : Ending) (w' : World) : Prop :=
  ∃ A c, e = .returned (.tuple #[.agg #[.int .i64 l, .slice A n c], .bool b]) ∧ w'.ownsRow w.heap.size 3 1 (.slice A n c) n (ints xs) ∧ Below w.heap.size w w'

def oppF (n : Nat) (xs : List Int) (i k : Nat) : Int := tg xs (k * n + i)
def oppL (s : Int) (xs : List Int) : Int := if tableOk s xs then s else 0
/-- The entries of the opposite table. -/
def opps (s : Int) (xs : List Int) : List Int := if tableOk s xs then gridAcc (oppF s.toNat xs) s.toNat s.toNat else []
theorem tableOk_out {s : Int} {xs : List Int} (h : tableOk s xs = true) : 1 ≤ s ∧ s ≤ 40 ∧ (xs.length : Int) = s * s ∧ xs.all (fun x => inB x 0 (s - 1)) = true := by
  unfold tableOk at h
  simp only [Bool.and_eq_true, decide_eq_true_eq] at h
  have := inB_out h.1.1.1.symm
  exact ⟨this.1, this.2, h.1.1.2, h.1.2⟩
theorem opps_len (s : Int) (xs : List Int) : (opps s xs).length ≤ 1048576 := by
  unfold opps
  split
  · next h =>
    obtain ⟨h1, h2, -, -⟩ := tableOk_out h
    rw [gridAcc_len]
    have : s.toNat * s.toNat ≤ 40 * 40 := Nat.mul_le_mul (by omega) (by omega)
    omega
  · simp



end Go.Proofs.Ytgnmfneinnojnaa
