/- Walks over the known systems (BracketSystem, ProjectorSystem, SortingSystem): the program's and the reference's hand back the same rules. -/
import Derived.Test.YtkklmpdinengnaaLetter
import Derived.Test.YtkklmpdinengnaaRule
import Derived.Test.YtkklmpdinengnaaWts
import Derived.Test.YtkklmpdinengnaaApp2
import Derived.Deep.RegionLaw
namespace Go.Proofs.Ytkklmpdinengnaa
open Go.RowKit Go.Shelf

/-- A system in memory of the call's own, and a bool. -/
def MadeSys (w : World) (l : Int) (n : Nat) (rs : List RuleT) (b : Bool) (e : Ending) (w' : World) : Prop :=
  ∃ A c, e = .returned (.tuple #[.agg #[.int .i64 l, .slice A n c], .bool b]) ∧ w'.ownsRow w.heap.size 77 2 (.slice A n c) n (cellsRule rs) ∧ Below w.heap.size w w'

theorem cellsRule_snoc (rs : List RuleT) (r : RuleT) : cellsRule (rs ++ [r]) = cellsRule rs ++ [.string r.1, .string r.2] := by simp [cellsRule, encRule]
theorem one_cell_rule (a b : ByteArray) : ∀ u ∈ (#[Value.string a, Value.string b] : Array Value).toList, u.oneCell' = true := by
  intro u hu
  simp at hu
  rcases hu with rfl | rfl <;> rfl

def bracketR (i : Nat) : RuleT := (letter (2 * i) ++ letter (2 * i + 1), ⟨#[]⟩)
/-- The rules of the bracket system. -/
def brackets (k : Int) : List RuleT := if inB k 1 2 then (List.range k.toNat).map bracketR else []
def bracketL (k : Int) : Int := if inB k 1 2 then 2 * k else 0

def projR (i : Nat) : RuleT := (letter i ++ letter i, letter i)
/-- The rules of the projector system. -/
def projs (k : Int) : List RuleT := if inB k 1 4 then (List.range k.toNat).map projR else []
def projL (k : Int) : Int := if inB k 1 4 then k else 0
theorem brackets_len (k : Int) : (brackets k).length ≤ 1048576 := by
  unfold brackets
  split
  · next h => have := inB_out h.symm; simp; omega
  · simp
theorem projs_len (k : Int) : (projs k).length ≤ 1048576 := by
  unfold projs
  split
  · next h => have := inB_out h.symm; simp; omega
  · simp

set_option maxRecDepth 100000 in
set_option maxHeartbeats 4000000 in
theorem implBracketSystem_any (k : Int) (w : World) : Calls Try.prog 35 #[.int .i64 k] w (MadeSys w (bracketL k) (brackets k).length (brackets k) (inB k 1 2)) := by
  go_enter Try.func35, Try.ntmps35
  go_wp2_with fail
  refine (within_any k 1 2 _).mono ?_
  rintro e w1 ⟨rfl, rfl⟩
  obtain ⟨r, hrr⟩ : ∃ r', r' = (inB k 1 2) := ⟨_, rfl⟩
  rw [← hrr]
  have HR := Lib.hid hrr
  clear hrr
  cases r
  · go_wp2_with fail
    have e1 : bracketL k = 0 := by rw [bracketL, ← HR.out]; rfl
    have e2 : brackets k = [] := by rw [brackets, ← HR.out]; rfl
    refine bodyPost_ret (v := .tuple #[.agg #[.int .i64 0, .slice none 0 0], .bool false]) (by simp [results, Try.results35, go_sem]) rfl ?_
    rw [e1, e2]
    refine ⟨none, 0, by rw [← HR.out]; rfl, World.ownsRow_nil _ _ _ _, ?_⟩
    exact (Below.refl _ _).alloc (Nat.le_refl _) _
  · obtain ⟨hk1, hk2⟩ := inB_out HR.out
    obtain ⟨K, rfl⟩ := Int.eq_ofNat_of_zero_le (show 0 ≤ k by omega)
    go_wp2_with fail
    go_loopw [5, 14] (fun _ i wr => ∃ (j : Nat) (A : Option Addr) (c : Nat), j ≤ K ∧ i = .int .i64 j ∧ Bk wr w.heap.size 40 #[.int .i64 0, .slice none 0 0] ∧ Bk wr (w.heap.size + 1) 40 #[.int .i64 (2 * (K : Int)), .slice A j c] ∧ wr.ownsRow (w.heap.size + 2) 77 2 (.slice A j c) j (cellsRule ((List.range j).map bracketR)) ∧ Below w.heap.size w wr) (fun _ i _ => K - (intOf i).toNat)
    case atStart => exact ⟨0, none, 0, Nat.zero_le _, rfl, (Bk.new w _ _).alloc _, by have := Bk.new (w.alloc (.cells #[.int .i64 0, .slice none 0 0] 40)) 40 #[.int .i64 (2 * (K : Int)), .slice none 0 0]; simpa using this, World.ownsRow_nil _ _ _ _, ((Below.refl _ _).alloc (Nat.le_refl _) _).alloc (by simp) _⟩
    case round =>
      obtain ⟨j, A, c, hj, rfl, hB0, hB1, hO, hW⟩ := hrel
      by_cases hlt : j < K
      · have hg : w.heap.size + 2 ≤ wr.heap.size := by have := hB1.lt; omega
        have eS : ∀ W, Below wr.drew.heap.size wr.drew W → W.cell? ⟨w.heap.size + 1, 1, none⟩ = some (.slice A j c) := fun W hb => (hb.cell (p := ⟨w.heap.size + 1, 1, none⟩) (by simp; omega)).trans (by rw [hB1.drew.cell]; rfl)
        have eO : ∀ W, Below wr.drew.heap.size wr.drew W → W.ownsRow (w.heap.size + 2) 77 2 (.slice A j c) j (cellsRule ((List.range j).map bracketR)) := fun W hb => own_keep (w := wr.drew) hO hb (Nat.le_refl _)
        have c0 : wr.cell? ⟨w.heap.size + 1, 1, none⟩ = some (.slice A j c) := by rw [hB1.cell]; rfl
        have hV : Below wr.drew.heap.size wr.drew wr.drew := Below.refl _ _
        have hU : True := trivial
        have ES := Lib.hid eS
        clear eS
        have EO := Lib.hid eO
        clear eO
        have HB0 := Lib.hid hB0
        clear hB0
        have HB1 := Lib.hid hB1
        clear hB1
        have HO := Lib.hid hO
        clear hO
        have hcat : ∀ W : World, (Op.stringOp .add (letter (2 * (j : Int))) (letter (2 * (j : Int) + 1))).run Try.prog W = .ok (.string (letter (2 * (j : Int)) ++ letter (2 * (j : Int) + 1))) W := fun W => run_string_add_sum W _ _ (by simp only [letter_size]; omega)
        have m1 : IntKind.i64.wrap (2 * (j : Int)) = 2 * j := IntWalk.i64_in _ (by omega)
        have m2 : IntKind.i64.wrap (2 * (j : Int) + 1) = 2 * j + 1 := IntWalk.i64_in _ (by omega)
        go_wp2_with fail
        go_region_law (first | (refine step_app1 _ _ rfl _ _ 38 rfl (w.heap.size + 2) 77 2 32 _ Try.underlying38 info_Rule rfl (by omega) _ _ _ _ rfl rfl rfl (EO.out _ hV) rfl (one_cell_rule _ _) (by omega) (by unfold maxLen; omega) (by have := hV.size; simp at this; omega) ?_; intro A5 c5 w5 hO5 hW5; have hB5 := (HB1.out.drew.below hV (by simp; omega)).below hW5 (by omega); have hS5 := hB5.cell 1; have hF5 := hB5.free 1) | (go_simp; ((with_reducible refine (implLetter_any (2 * (j : Int)) _ (by omega) (by omega)).mono ?_); rintro e u ⟨rfl, hU⟩; have hV := hV.trans (hU.mono hV.size); have hS := ES.out _ hV; have hz : w.heap.size + 1 < u.heap.size := by have := hV.size; simp at this; omega)) | (go_simp; ((with_reducible refine (implLetter_any (2 * (j : Int) + 1) _ (by omega) (by omega)).mono ?_); rintro e u ⟨rfl, hU⟩; have hV := hV.trans (hU.mono hV.size); have hS := ES.out _ hV; have hz : w.heap.size + 1 < u.heap.size := by have := hV.size; simp at this; omega)))
        all_goals
          have hN : Below w.heap.size w (w5.setCell ⟨w.heap.size + 1, 1, none⟩ (.slice A5 (j + 1) c5)) := (((hW.drew).trans (hV.mono hW.size)).trans (hW5.mono (by omega))).setCell (by simp) _
          have hB0n := ((HB0.out.drew.below hV (by simp; omega)).below hW5 (by omega)).far (p := ⟨w.heap.size + 1, 1, none⟩) (by simp) (.slice A5 (j + 1) c5)
          have hB1n := hB5.put 1 (.slice A5 (j + 1) c5)
          have hOn := ownsRow_setCell_below hO5 (a := ⟨w.heap.size + 1, 1, none⟩) (by simp) (.slice A5 (j + 1) c5)
          have hcl : cellsRule ((List.range j).map bracketR) ++ (#[Value.string (letter (2 * (j : Int)) ++ letter (2 * (j : Int) + 1)), Value.string ⟨#[]⟩] : Array Value).toList = cellsRule ((List.range (j + 1)).map bracketR) := by
            rw [List.range_succ, List.map_append, List.map_singleton, cellsRule_snoc]
            rfl
          rw [hcl] at hOn
          clear hO5 hB5 hcl hS5 hF5 hV hU ES EO HB0 HB1 HO
          go_wp2_with fail
          go_roundw
          case rel => exact ⟨j + 1, A5, c5, by omega, by go_num, hB0n, hB1n, hOn, hN⟩
          case measure => simp [intOf]; omega
      · have : j = K := by omega
        subst this
        have l0 : wr.cell? ⟨w.heap.size + 1, 0, none⟩ = some (.int .i64 (2 * (j : Int))) := by rw [hB1.cell]; rfl
        have l1 : wr.cell? ⟨w.heap.size + 1, 1, none⟩ = some (.slice A j c) := by rw [hB1.cell]; rfl
        have r0 : wr.cell? ⟨w.heap.size, 0, none⟩ = some (.int .i64 0) := by rw [hB0.cell]; rfl
        have r1 : wr.cell? ⟨w.heap.size, 1, none⟩ = some (.slice none 0 0) := by rw [hB0.cell]; rfl
        have f0 := hB0.free 0
        have f1 := hB0.free 1
        have e1 : bracketL (j : Int) = 2 * (j : Int) := by rw [bracketL, ← HR.out]; rfl
        have e2 : brackets (j : Int) = (List.range j).map bracketR := by rw [brackets, ← HR.out]; rfl
        have E1 := Lib.hid e1
        clear e1
        have E2 := Lib.hid e2
        clear e2
        go_wp2_with fail
        have hBn := (hB0.put 0 (.int .i64 (2 * (j : Int)))).put 1 (.slice A j c)
        have q0 := hBn.cell 0
        have q1 := hBn.cell 1
        refine bodyPost_ret (v := .tuple #[.agg #[.int .i64 (2 * (j : Int)), .slice A j c], .bool true]) (by simp [results, Try.results35, go_sem, q0, q1]) rfl ?_
        rw [E1.out, E2.out]
        refine ⟨A, c, ?_, ?_, ?_⟩
        · rw [← HR.out]
          simp
        · simp only [List.length_map, List.length_range]
          exact own_mono (ownsRow_setCell_below (ownsRow_setCell_below hO (a := ⟨w.heap.size, 0, none⟩) (by simp) _) (a := ⟨w.heap.size, 1, none⟩) (by simp) _) (by omega)
        · exact (hW.setCell (by simp) _).setCell (by simp) _

set_option maxRecDepth 100000 in
set_option maxHeartbeats 4000000 in
theorem implProjectorSystem_any (k : Int) (w : World) : Calls Try.prog 40 #[.int .i64 k] w (MadeSys w (projL k) (projs k).length (projs k) (inB k 1 4)) := by
  go_enter Try.func40, Try.ntmps40
  go_wp2_with fail
  refine (within_any k 1 4 _).mono ?_
  rintro e w1 ⟨rfl, rfl⟩
  obtain ⟨r, hrr⟩ : ∃ r', r' = (inB k 1 4) := ⟨_, rfl⟩
  rw [← hrr]
  have HR := Lib.hid hrr
  clear hrr
  cases r
  · go_wp2_with fail
    have e1 : projL k = 0 := by rw [projL, ← HR.out]; rfl
    have e2 : projs k = [] := by rw [projs, ← HR.out]; rfl
    refine bodyPost_ret (v := .tuple #[.agg #[.int .i64 0, .slice none 0 0], .bool false]) (by simp [results, Try.results40, go_sem]) rfl ?_
    rw [e1, e2]
    refine ⟨none, 0, by rw [← HR.out]; rfl, World.ownsRow_nil _ _ _ _, ?_⟩
    exact (Below.refl _ _).alloc (Nat.le_refl _) _
  · obtain ⟨hk1, hk2⟩ := inB_out HR.out
    obtain ⟨K, rfl⟩ := Int.eq_ofNat_of_zero_le (show 0 ≤ k by omega)
    go_wp2_with fail
    go_loopw [5, 13] (fun _ i wr => ∃ (j : Nat) (A : Option Addr) (c : Nat), j ≤ K ∧ i = .int .i64 j ∧ Bk wr w.heap.size 40 #[.int .i64 0, .slice none 0 0] ∧ Bk wr (w.heap.size + 1) 40 #[.int .i64 ((K : Int)), .slice A j c] ∧ wr.ownsRow (w.heap.size + 2) 77 2 (.slice A j c) j (cellsRule ((List.range j).map projR)) ∧ Below w.heap.size w wr) (fun _ i _ => K - (intOf i).toNat)
    case atStart => exact ⟨0, none, 0, Nat.zero_le _, rfl, (Bk.new w _ _).alloc _, by have := Bk.new (w.alloc (.cells #[.int .i64 0, .slice none 0 0] 40)) 40 #[.int .i64 ((K : Int)), .slice none 0 0]; simpa using this, World.ownsRow_nil _ _ _ _, ((Below.refl _ _).alloc (Nat.le_refl _) _).alloc (by simp) _⟩
    case round =>
      obtain ⟨j, A, c, hj, rfl, hB0, hB1, hO, hW⟩ := hrel
      by_cases hlt : j < K
      · have hg : w.heap.size + 2 ≤ wr.heap.size := by have := hB1.lt; omega
        have eS : ∀ W, Below wr.drew.heap.size wr.drew W → W.cell? ⟨w.heap.size + 1, 1, none⟩ = some (.slice A j c) := fun W hb => (hb.cell (p := ⟨w.heap.size + 1, 1, none⟩) (by simp; omega)).trans (by rw [hB1.drew.cell]; rfl)
        have eO : ∀ W, Below wr.drew.heap.size wr.drew W → W.ownsRow (w.heap.size + 2) 77 2 (.slice A j c) j (cellsRule ((List.range j).map projR)) := fun W hb => own_keep (w := wr.drew) hO hb (Nat.le_refl _)
        have c0 : wr.cell? ⟨w.heap.size + 1, 1, none⟩ = some (.slice A j c) := by rw [hB1.cell]; rfl
        have hV : Below wr.drew.heap.size wr.drew wr.drew := Below.refl _ _
        have hU : True := trivial
        have ES := Lib.hid eS
        clear eS
        have EO := Lib.hid eO
        clear eO
        have HB0 := Lib.hid hB0
        clear hB0
        have HB1 := Lib.hid hB1
        clear hB1
        have HO := Lib.hid hO
        clear hO
        have hcat : ∀ W : World, (Op.stringOp .add (letter ((j : Int))) (letter ((j : Int)))).run Try.prog W = .ok (.string (letter ((j : Int)) ++ letter ((j : Int)))) W := fun W => run_string_add_sum W _ _ (by simp only [letter_size]; omega)
        go_wp2_with fail
        go_region_law (first | (refine step_app1 _ _ rfl _ _ 38 rfl (w.heap.size + 2) 77 2 32 _ Try.underlying38 info_Rule rfl (by omega) _ _ _ _ rfl rfl rfl (EO.out _ hV) rfl (one_cell_rule _ _) (by omega) (by unfold maxLen; omega) (by have := hV.size; simp at this; omega) ?_; intro A5 c5 w5 hO5 hW5; have hB5 := (HB1.out.drew.below hV (by simp; omega)).below hW5 (by omega); have hS5 := hB5.cell 1; have hF5 := hB5.free 1) | (go_simp; ((with_reducible refine (implLetter_any ((j : Int)) _ (by omega) (by omega)).mono ?_); rintro e u ⟨rfl, hU⟩; have hV := hV.trans (hU.mono hV.size); have hS := ES.out _ hV; have hz : w.heap.size + 1 < u.heap.size := by have := hV.size; simp at this; omega)))
        all_goals
          have hN : Below w.heap.size w (w5.setCell ⟨w.heap.size + 1, 1, none⟩ (.slice A5 (j + 1) c5)) := (((hW.drew).trans (hV.mono hW.size)).trans (hW5.mono (by omega))).setCell (by simp) _
          have hB0n := ((HB0.out.drew.below hV (by simp; omega)).below hW5 (by omega)).far (p := ⟨w.heap.size + 1, 1, none⟩) (by simp) (.slice A5 (j + 1) c5)
          have hB1n := hB5.put 1 (.slice A5 (j + 1) c5)
          have hOn := ownsRow_setCell_below hO5 (a := ⟨w.heap.size + 1, 1, none⟩) (by simp) (.slice A5 (j + 1) c5)
          have hcl : cellsRule ((List.range j).map projR) ++ (#[Value.string (letter (j : Int) ++ letter (j : Int)), Value.string (letter (j : Int))] : Array Value).toList = cellsRule ((List.range (j + 1)).map projR) := by
            rw [List.range_succ, List.map_append, List.map_singleton, cellsRule_snoc]
            rfl
          rw [hcl] at hOn
          clear hO5 hB5 hcl hS5 hF5 hV hU ES EO HB0 HB1 HO
          go_wp2_with fail
          go_roundw
          case rel => exact ⟨j + 1, A5, c5, by omega, by go_num, hB0n, hB1n, hOn, hN⟩
          case measure => simp [intOf]; omega
      · have : j = K := by omega
        subst this
        have l0 : wr.cell? ⟨w.heap.size + 1, 0, none⟩ = some (.int .i64 ((j : Int))) := by rw [hB1.cell]; rfl
        have l1 : wr.cell? ⟨w.heap.size + 1, 1, none⟩ = some (.slice A j c) := by rw [hB1.cell]; rfl
        have r0 : wr.cell? ⟨w.heap.size, 0, none⟩ = some (.int .i64 0) := by rw [hB0.cell]; rfl
        have r1 : wr.cell? ⟨w.heap.size, 1, none⟩ = some (.slice none 0 0) := by rw [hB0.cell]; rfl
        have f0 := hB0.free 0
        have f1 := hB0.free 1
        have e1 : projL (j : Int) = (j : Int) := by rw [projL, ← HR.out]; rfl
        have e2 : projs (j : Int) = (List.range j).map projR := by rw [projs, ← HR.out]; rfl
        have E1 := Lib.hid e1
        clear e1
        have E2 := Lib.hid e2
        clear e2
        go_wp2_with fail
        have hBn := (hB0.put 0 (.int .i64 ((j : Int)))).put 1 (.slice A j c)
        have q0 := hBn.cell 0
        have q1 := hBn.cell 1
        refine bodyPost_ret (v := .tuple #[.agg #[.int .i64 ((j : Int)), .slice A j c], .bool true]) (by simp [results, Try.results40, go_sem, q0, q1]) rfl ?_
        rw [E1.out, E2.out]
        refine ⟨A, c, ?_, ?_, ?_⟩
        · rw [← HR.out]
          simp
        · simp only [List.length_map, List.length_range]
          exact own_mono (ownsRow_setCell_below (ownsRow_setCell_below hO (a := ⟨w.heap.size, 0, none⟩) (by simp) _) (a := ⟨w.heap.size, 1, none⟩) (by simp) _) (by omega)
        · exact (hW.setCell (by simp) _).setCell (by simp) _

set_option maxRecDepth 100000 in
set_option maxHeartbeats 4000000 in
theorem specBracketSystem_any (k : Int) (w : World) : Calls Try.prog 34 #[.int .i64 k] w (MadeSys w (bracketL k) (brackets k).length (brackets k) (inB k 1 2)) := by
  go_enter Try.func34, Try.ntmps34
  go_wp2_with fail
  refine (l01In_any k 1 2 _).mono ?_
  rintro e w1 ⟨rfl, rfl⟩
  obtain ⟨r, hrr⟩ : ∃ r', r' = (inB k 1 2) := ⟨_, rfl⟩
  rw [← hrr]
  have HR := Lib.hid hrr
  clear hrr
  cases r
  · go_wp2_with fail
    have e1 : bracketL k = 0 := by rw [bracketL, ← HR.out]; rfl
    have e2 : brackets k = [] := by rw [brackets, ← HR.out]; rfl
    refine bodyPost_ret (v := .tuple #[.agg #[.int .i64 0, .slice none 0 0], .bool false]) (by simp [results, Try.results34, go_sem]) rfl ?_
    rw [e1, e2]
    refine ⟨none, 0, by rw [← HR.out]; rfl, World.ownsRow_nil _ _ _ _, ?_⟩
    exact (Below.refl _ _).alloc (Nat.le_refl _) _
  · obtain ⟨hk1, hk2⟩ := inB_out HR.out
    obtain ⟨K, rfl⟩ := Int.eq_ofNat_of_zero_le (show 0 ≤ k by omega)
    go_wp2_with fail
    go_loopw [5] (fun i wr => ∃ (j : Nat) (A : Option Addr) (c : Nat), j ≤ K ∧ i = .int .i64 j ∧ Bk wr w.heap.size 40 #[.int .i64 0, .slice none 0 0] ∧ Bk wr (w.heap.size + 1) 40 #[.int .i64 (2 * (K : Int)), .slice A j c] ∧ wr.ownsRow (w.heap.size + 2) 77 2 (.slice A j c) j (cellsRule ((List.range j).map bracketR)) ∧ Below w.heap.size w wr) (fun i _ => K - (intOf i).toNat)
    case atStart => exact ⟨0, none, 0, Nat.zero_le _, rfl, (Bk.new w _ _).alloc _, by have := Bk.new (w.alloc (.cells #[.int .i64 0, .slice none 0 0] 40)) 40 #[.int .i64 (2 * (K : Int)), .slice none 0 0]; simpa using this, World.ownsRow_nil _ _ _ _, ((Below.refl _ _).alloc (Nat.le_refl _) _).alloc (by simp) _⟩
    case round =>
      obtain ⟨j, A, c, hj, rfl, hB0, hB1, hO, hW⟩ := hrel
      by_cases hlt : j < K
      · have hg : w.heap.size + 2 ≤ wr.heap.size := by have := hB1.lt; omega
        have eS : ∀ W, Below wr.drew.heap.size wr.drew W → W.cell? ⟨w.heap.size + 1, 1, none⟩ = some (.slice A j c) := fun W hb => (hb.cell (p := ⟨w.heap.size + 1, 1, none⟩) (by simp; omega)).trans (by rw [hB1.drew.cell]; rfl)
        have eO : ∀ W, Below wr.drew.heap.size wr.drew W → W.ownsRow (w.heap.size + 2) 77 2 (.slice A j c) j (cellsRule ((List.range j).map bracketR)) := fun W hb => own_keep (w := wr.drew) hO hb (Nat.le_refl _)
        have c0 : wr.cell? ⟨w.heap.size + 1, 1, none⟩ = some (.slice A j c) := by rw [hB1.cell]; rfl
        have hV : Below wr.drew.heap.size wr.drew wr.drew := Below.refl _ _
        have hU : True := trivial
        have ES := Lib.hid eS
        clear eS
        have EO := Lib.hid eO
        clear eO
        have HB0 := Lib.hid hB0
        clear hB0
        have HB1 := Lib.hid hB1
        clear hB1
        have HO := Lib.hid hO
        clear hO
        have hcat : ∀ W : World, (Op.stringOp .add (letter (2 * (j : Int))) (letter (2 * (j : Int) + 1))).run Try.prog W = .ok (.string (letter (2 * (j : Int)) ++ letter (2 * (j : Int) + 1))) W := fun W => run_string_add_sum W _ _ (by simp only [letter_size]; omega)
        have m1 : IntKind.i64.wrap (2 * (j : Int)) = 2 * j := IntWalk.i64_in _ (by omega)
        have m2 : IntKind.i64.wrap (2 * (j : Int) + 1) = 2 * j + 1 := IntWalk.i64_in _ (by omega)
        go_wp2_with fail
        go_region_law (first | (refine step_app1 _ _ rfl _ _ 38 rfl (w.heap.size + 2) 77 2 32 _ Try.underlying38 info_Rule rfl (by omega) _ _ _ _ rfl rfl rfl (EO.out _ hV) rfl (one_cell_rule _ _) (by omega) (by unfold maxLen; omega) (by have := hV.size; simp at this; omega) ?_; intro A5 c5 w5 hO5 hW5; have hB5 := (HB1.out.drew.below hV (by simp; omega)).below hW5 (by omega); have hS5 := hB5.cell 1; have hF5 := hB5.free 1) | (go_simp; ((with_reducible refine (specLetter_any (2 * (j : Int)) _ (by omega) (by omega)).mono ?_); rintro e u ⟨rfl, hU⟩; have hV := hV.trans (hU.mono hV.size); have hS := ES.out _ hV; have hz : w.heap.size + 1 < u.heap.size := by have := hV.size; simp at this; omega)) | (go_simp; ((with_reducible refine (specLetter_any (2 * (j : Int) + 1) _ (by omega) (by omega)).mono ?_); rintro e u ⟨rfl, hU⟩; have hV := hV.trans (hU.mono hV.size); have hS := ES.out _ hV; have hz : w.heap.size + 1 < u.heap.size := by have := hV.size; simp at this; omega)))
        all_goals
          have hN : Below w.heap.size w (w5.setCell ⟨w.heap.size + 1, 1, none⟩ (.slice A5 (j + 1) c5)) := (((hW.drew).trans (hV.mono hW.size)).trans (hW5.mono (by omega))).setCell (by simp) _
          have hB0n := ((HB0.out.drew.below hV (by simp; omega)).below hW5 (by omega)).far (p := ⟨w.heap.size + 1, 1, none⟩) (by simp) (.slice A5 (j + 1) c5)
          have hB1n := hB5.put 1 (.slice A5 (j + 1) c5)
          have hOn := ownsRow_setCell_below hO5 (a := ⟨w.heap.size + 1, 1, none⟩) (by simp) (.slice A5 (j + 1) c5)
          have hcl : cellsRule ((List.range j).map bracketR) ++ (#[Value.string (letter (2 * (j : Int)) ++ letter (2 * (j : Int) + 1)), Value.string ⟨#[]⟩] : Array Value).toList = cellsRule ((List.range (j + 1)).map bracketR) := by
            rw [List.range_succ, List.map_append, List.map_singleton, cellsRule_snoc]
            rfl
          rw [hcl] at hOn
          clear hO5 hB5 hcl hS5 hF5 hV hU ES EO HB0 HB1 HO
          go_wp2_with fail
          go_roundw
          case rel => exact ⟨j + 1, A5, c5, by omega, by go_num, hB0n, hB1n, hOn, hN⟩
          case measure => simp [intOf]; omega
      · have : j = K := by omega
        subst this
        have l0 : wr.cell? ⟨w.heap.size + 1, 0, none⟩ = some (.int .i64 (2 * (j : Int))) := by rw [hB1.cell]; rfl
        have l1 : wr.cell? ⟨w.heap.size + 1, 1, none⟩ = some (.slice A j c) := by rw [hB1.cell]; rfl
        have r0 : wr.cell? ⟨w.heap.size, 0, none⟩ = some (.int .i64 0) := by rw [hB0.cell]; rfl
        have r1 : wr.cell? ⟨w.heap.size, 1, none⟩ = some (.slice none 0 0) := by rw [hB0.cell]; rfl
        have f0 := hB0.free 0
        have f1 := hB0.free 1
        have e1 : bracketL (j : Int) = 2 * (j : Int) := by rw [bracketL, ← HR.out]; rfl
        have e2 : brackets (j : Int) = (List.range j).map bracketR := by rw [brackets, ← HR.out]; rfl
        have E1 := Lib.hid e1
        clear e1
        have E2 := Lib.hid e2
        clear e2
        go_wp2_with fail
        have hBn := (hB0.put 0 (.int .i64 (2 * (j : Int)))).put 1 (.slice A j c)
        have q0 := hBn.cell 0
        have q1 := hBn.cell 1
        refine bodyPost_ret (v := .tuple #[.agg #[.int .i64 (2 * (j : Int)), .slice A j c], .bool true]) (by simp [results, Try.results34, go_sem, q0, q1]) rfl ?_
        rw [E1.out, E2.out]
        refine ⟨A, c, ?_, ?_, ?_⟩
        · rw [← HR.out]
          simp
        · simp only [List.length_map, List.length_range]
          exact own_mono (ownsRow_setCell_below (ownsRow_setCell_below hO (a := ⟨w.heap.size, 0, none⟩) (by simp) _) (a := ⟨w.heap.size, 1, none⟩) (by simp) _) (by omega)
        · exact (hW.setCell (by simp) _).setCell (by simp) _

set_option maxRecDepth 100000 in
set_option maxHeartbeats 4000000 in
theorem specProjectorSystem_any (k : Int) (w : World) : Calls Try.prog 39 #[.int .i64 k] w (MadeSys w (projL k) (projs k).length (projs k) (inB k 1 4)) := by
  go_enter Try.func39, Try.ntmps39
  go_wp2_with fail
  refine (l01In_any k 1 4 _).mono ?_
  rintro e w1 ⟨rfl, rfl⟩
  obtain ⟨r, hrr⟩ : ∃ r', r' = (inB k 1 4) := ⟨_, rfl⟩
  rw [← hrr]
  have HR := Lib.hid hrr
  clear hrr
  cases r
  · go_wp2_with fail
    have e1 : projL k = 0 := by rw [projL, ← HR.out]; rfl
    have e2 : projs k = [] := by rw [projs, ← HR.out]; rfl
    refine bodyPost_ret (v := .tuple #[.agg #[.int .i64 0, .slice none 0 0], .bool false]) (by simp [results, Try.results39, go_sem]) rfl ?_
    rw [e1, e2]
    refine ⟨none, 0, by rw [← HR.out]; rfl, World.ownsRow_nil _ _ _ _, ?_⟩
    exact (Below.refl _ _).alloc (Nat.le_refl _) _
  · obtain ⟨hk1, hk2⟩ := inB_out HR.out
    obtain ⟨K, rfl⟩ := Int.eq_ofNat_of_zero_le (show 0 ≤ k by omega)
    go_wp2_with fail
    go_loopw [5] (fun i wr => ∃ (j : Nat) (A : Option Addr) (c : Nat), j ≤ K ∧ i = .int .i64 j ∧ Bk wr w.heap.size 40 #[.int .i64 0, .slice none 0 0] ∧ Bk wr (w.heap.size + 1) 40 #[.int .i64 ((K : Int)), .slice A j c] ∧ wr.ownsRow (w.heap.size + 2) 77 2 (.slice A j c) j (cellsRule ((List.range j).map projR)) ∧ Below w.heap.size w wr) (fun i _ => K - (intOf i).toNat)
    case atStart => exact ⟨0, none, 0, Nat.zero_le _, rfl, (Bk.new w _ _).alloc _, by have := Bk.new (w.alloc (.cells #[.int .i64 0, .slice none 0 0] 40)) 40 #[.int .i64 ((K : Int)), .slice none 0 0]; simpa using this, World.ownsRow_nil _ _ _ _, ((Below.refl _ _).alloc (Nat.le_refl _) _).alloc (by simp) _⟩
    case round =>
      obtain ⟨j, A, c, hj, rfl, hB0, hB1, hO, hW⟩ := hrel
      by_cases hlt : j < K
      · have hg : w.heap.size + 2 ≤ wr.heap.size := by have := hB1.lt; omega
        have eS : ∀ W, Below wr.drew.heap.size wr.drew W → W.cell? ⟨w.heap.size + 1, 1, none⟩ = some (.slice A j c) := fun W hb => (hb.cell (p := ⟨w.heap.size + 1, 1, none⟩) (by simp; omega)).trans (by rw [hB1.drew.cell]; rfl)
        have eO : ∀ W, Below wr.drew.heap.size wr.drew W → W.ownsRow (w.heap.size + 2) 77 2 (.slice A j c) j (cellsRule ((List.range j).map projR)) := fun W hb => own_keep (w := wr.drew) hO hb (Nat.le_refl _)
        have c0 : wr.cell? ⟨w.heap.size + 1, 1, none⟩ = some (.slice A j c) := by rw [hB1.cell]; rfl
        have hV : Below wr.drew.heap.size wr.drew wr.drew := Below.refl _ _
        have hU : True := trivial
        have ES := Lib.hid eS
        clear eS
        have EO := Lib.hid eO
        clear eO
        have HB0 := Lib.hid hB0
        clear hB0
        have HB1 := Lib.hid hB1
        clear hB1
        have HO := Lib.hid hO
        clear hO
        have hcat : ∀ W : World, (Op.stringOp .add (letter ((j : Int))) (letter ((j : Int)))).run Try.prog W = .ok (.string (letter ((j : Int)) ++ letter ((j : Int)))) W := fun W => run_string_add_sum W _ _ (by simp only [letter_size]; omega)
        go_wp2_with fail
        go_region_law (first | (refine step_app1 _ _ rfl _ _ 38 rfl (w.heap.size + 2) 77 2 32 _ Try.underlying38 info_Rule rfl (by omega) _ _ _ _ rfl rfl rfl (EO.out _ hV) rfl (one_cell_rule _ _) (by omega) (by unfold maxLen; omega) (by have := hV.size; simp at this; omega) ?_; intro A5 c5 w5 hO5 hW5; have hB5 := (HB1.out.drew.below hV (by simp; omega)).below hW5 (by omega); have hS5 := hB5.cell 1; have hF5 := hB5.free 1) | (go_simp; ((with_reducible refine (specLetter_any ((j : Int)) _ (by omega) (by omega)).mono ?_); rintro e u ⟨rfl, hU⟩; have hV := hV.trans (hU.mono hV.size); have hS := ES.out _ hV; have hz : w.heap.size + 1 < u.heap.size := by have := hV.size; simp at this; omega)))
        all_goals
          have hN : Below w.heap.size w (w5.setCell ⟨w.heap.size + 1, 1, none⟩ (.slice A5 (j + 1) c5)) := (((hW.drew).trans (hV.mono hW.size)).trans (hW5.mono (by omega))).setCell (by simp) _
          have hB0n := ((HB0.out.drew.below hV (by simp; omega)).below hW5 (by omega)).far (p := ⟨w.heap.size + 1, 1, none⟩) (by simp) (.slice A5 (j + 1) c5)
          have hB1n := hB5.put 1 (.slice A5 (j + 1) c5)
          have hOn := ownsRow_setCell_below hO5 (a := ⟨w.heap.size + 1, 1, none⟩) (by simp) (.slice A5 (j + 1) c5)
          have hcl : cellsRule ((List.range j).map projR) ++ (#[Value.string (letter (j : Int) ++ letter (j : Int)), Value.string (letter (j : Int))] : Array Value).toList = cellsRule ((List.range (j + 1)).map projR) := by
            rw [List.range_succ, List.map_append, List.map_singleton, cellsRule_snoc]
            rfl
          rw [hcl] at hOn
          clear hO5 hB5 hcl hS5 hF5 hV hU ES EO HB0 HB1 HO
          go_wp2_with fail
          go_roundw
          case rel => exact ⟨j + 1, A5, c5, by omega, by go_num, hB0n, hB1n, hOn, hN⟩
          case measure => simp [intOf]; omega
      · have : j = K := by omega
        subst this
        have l0 : wr.cell? ⟨w.heap.size + 1, 0, none⟩ = some (.int .i64 ((j : Int))) := by rw [hB1.cell]; rfl
        have l1 : wr.cell? ⟨w.heap.size + 1, 1, none⟩ = some (.slice A j c) := by rw [hB1.cell]; rfl
        have r0 : wr.cell? ⟨w.heap.size, 0, none⟩ = some (.int .i64 0) := by rw [hB0.cell]; rfl
        have r1 : wr.cell? ⟨w.heap.size, 1, none⟩ = some (.slice none 0 0) := by rw [hB0.cell]; rfl
        have f0 := hB0.free 0
        have f1 := hB0.free 1
        have e1 : projL (j : Int) = (j : Int) := by rw [projL, ← HR.out]; rfl
        have e2 : projs (j : Int) = (List.range j).map projR := by rw [projs, ← HR.out]; rfl
        have E1 := Lib.hid e1
        clear e1
        have E2 := Lib.hid e2
        clear e2
        go_wp2_with fail
        have hBn := (hB0.put 0 (.int .i64 ((j : Int)))).put 1 (.slice A j c)
        have q0 := hBn.cell 0
        have q1 := hBn.cell 1
        refine bodyPost_ret (v := .tuple #[.agg #[.int .i64 ((j : Int)), .slice A j c], .bool true]) (by simp [results, Try.results39, go_sem, q0, q1]) rfl ?_
        rw [E1.out, E2.out]
        refine ⟨A, c, ?_, ?_, ?_⟩
        · rw [← HR.out]
          simp
        · simp only [List.length_map, List.length_range]
          exact own_mono (ownsRow_setCell_below (ownsRow_setCell_below hO (a := ⟨w.heap.size, 0, none⟩) (by simp) _) (a := ⟨w.heap.size, 1, none⟩) (by simp) _) (by omega)
        · exact (hW.setCell (by simp) _).setCell (by simp) _

end Go.Proofs.Ytkklmpdinengnaa
