/- Walks over PowerWord of the reference and CyclicSystem (the program's and the reference's). -/




import Derived.Test.YtgceabbeeobmgaaRule
import Derived.Test.YtgceabbeeobmgaaSysK
import Derived.Test.YtgceabbeeobmgaaWts
import Derived.Test.YtgceabbeeobmgaaApp
import Derived.Test.YtgceabbeeobmgaaApp2
namespace Go.Proofs.Ytgceabbeeobmgaa

open Go.RowKit Go.Shelf

/-- j copies of a word. -/
def pow (s : ByteArray) : Nat → ByteArray
  | 0 => ⟨#[]⟩
  | j + 1 => pow s j ++ s
theorem pow_size (s : ByteArray) (j : Nat) : (pow s j).size = j * s.size := by
  induction j with
  | zero => simp [pow]; rfl
  | succ j ih => rw [pow, ByteArray.size_append, ih, Nat.succ_mul]

def aW : ByteArray := ⟨#[97]⟩
def cyR (n : Nat) : RuleT := (pow aW n, ⟨#[]⟩)
/-- The rules of the cyclic system. -/
def cyclics (n : Int) : List RuleT := if inB n 1 8 then [cyR n.toNat] else []
def cyclicL (n : Int) : Int := if inB n 1 8 then 1 else 0

set_option maxRecDepth 100000 in
set_option maxHeartbeats 1000000 in
theorem specPower_a (n : Nat) (w : World) (h1 : 1 ≤ n) (h2 : n ≤ 8) :
    Calls Try.prog 10 #[.string ⟨#[97]⟩, .int .i64 n] w fun e w' => e = .returned (.tuple #[.string (pow aW n), .bool true]) ∧ w = w' := by
  go_enter Try.func10, Try.ntmps10
  go_wp2_with fail
  go_loop [6, 7] (fun s i => ∃ (j : Nat), j ≤ n ∧ i = .int .i64 j ∧ s = .string (pow aW j)) (fun _ i => n - (intOf i).toNat)
  case atStart => exact ⟨0, Nat.zero_le _, rfl, rfl⟩
  case round =>
    obtain ⟨j, hj, rfl, rfl⟩ := hrel
    have hs : (pow aW j).size ≤ 8 := by rw [pow_size]; show j * 1 ≤ 8; omega
    obtain ⟨p, hp⟩ : ∃ p, p = pow aW j := ⟨_, rfl⟩
    rw [← hp] at hs
    rw [← hp]
    have hcat : ∀ W : World, (Op.stringOp .add p ⟨#[97]⟩).run Try.prog W = .ok (.string (p ++ ⟨#[97]⟩)) W := fun W => run_string_add_sum W _ _ (by show p.size + 1 ≤ _; omega)
    have Hp := Lib.hid hp
    clear hp
    by_cases hlt : j < n
    · go_wp2_with fail
      go_round
      case rel => exact ⟨j + 1, by omega, by go_num, by rw [pow, ← Hp.out]; rfl⟩
      case measure => simp [intOf]; omega
    · have : j = n := by omega
      subst this
      go_wp2_with fail
      go_ret2
      exact ⟨by rw [← Hp.out]; rfl, rfl⟩

set_option maxRecDepth 100000 in
set_option maxHeartbeats 1000000 in
theorem specCyclicSystem_any (k : Int) (w : World) : Calls Try.prog 4 #[.int .i64 k] w (MadeSys w (cyclicL k) (cyclics k).length (cyclics k) (inB k 1 8)) := by
  go_enter Try.func4, Try.ntmps4
  go_wp2_with fail
  refine (l01In_any k 1 8 _).mono ?_
  rintro e w1 ⟨rfl, rfl⟩
  obtain ⟨r, hrr⟩ : ∃ r', r' = (inB k 1 8) := ⟨_, rfl⟩
  rw [← hrr]
  have HR := Lib.hid hrr
  clear hrr
  cases r
  · go_wp2_with fail
    have e1 : cyclicL k = 0 := by rw [cyclicL, ← HR.out]; rfl
    have e2 : cyclics k = [] := by rw [cyclics, ← HR.out]; rfl
    refine bodyPost_ret (v := .tuple #[.agg #[.int .i64 0, .slice none 0 0], .bool false]) (by simp [results, Try.results4, go_sem]) rfl ?_
    rw [e1, e2]
    refine ⟨none, 0, by rw [← HR.out]; rfl, World.ownsRow_nil _ _ _ _, ?_⟩
    exact (Below.refl _ _).alloc (Nat.le_refl _) _
  · obtain ⟨hk1, hk2⟩ := inB_out HR.out
    obtain ⟨K, rfl⟩ := Int.eq_ofNat_of_zero_le (show 0 ≤ k by omega)
    go_wp2_with fail
    refine (specPower_a K _ (by omega) (by omega)).mono ?_
    rintro e w1 ⟨rfl, rfl⟩
    obtain ⟨p, hrr⟩ : ∃ r', r' = (pow aW K) := ⟨_, rfl⟩
    rw [← hrr]
    have HP := Lib.hid hrr
    clear hrr
    go_wp2_with fail
    have e1 : cyclicL (K : Int) = 1 := by rw [cyclicL, ← HR.out]; rfl
    have e2 : cyclics (K : Int) = [cyR K] := by rw [cyclics, ← HR.out]; rfl
    refine bodyPost_ret (v := .tuple #[.agg #[.int .i64 1, .slice (some ⟨w.heap.size + 1, 0, none⟩) 1 1], .bool true]) (by simp [results, Try.results4, go_sem]) rfl ?_
    rw [e1, e2]
    refine ⟨some ⟨w.heap.size + 1, 0, none⟩, 1, by rw [← HR.out]; rfl, ?_, ((Below.refl _ _).alloc (Nat.le_refl _) _).alloc (by simp) _⟩
    have hb := (Bk.new (w.alloc (.cells #[.int .i64 1, .slice (some ⟨w.heap.size + 1, 0, none⟩) 1 1] 24)) 34 #[.string p, .string ⟨#[]⟩]).cast (g' := w.heap.size + 1) (by simp)
    have ho := own_of_bk (base := w.heap.size) (m := 2) (n := 1) hb (by omega) (by simp) (by unfold maxLen; omega)
    rw [HP.out] at ho ⊢
    exact ho

end Go.Proofs.Ytgceabbeeobmgaa
