/- Merged texts: a claim has a limit of files. -/
import Derived.Test.YtidmbeeadbedaaaMg4
import Derived.Test.YtidmbeeadbedaaaMg5
import Derived.Test.YtidmbeeadbedaaaMg2
import Derived.Test.YtidmbeeadbedaaaMg1
import Derived.Deep.RegionLaw
import Derived.Test.YtidmbeeadbedaaaMg17

/- Walks over the known systems (BracketSystem, ProjectorSystem, SortingSystem): the program's and the reference's hand back the same rules. -/
namespace Go.Proofs.Ytidmbeeadbedaaa
open Go.RowKit Go.Shelf

/-- A system in memory of the call's own, and a bool. -/
def MadeSys (w : World) (l : Int) (n : Nat) (rs : List RuleT) (b : Bool) (e : Ending) (w' : World) : Prop :=
  ∃ A c, e = .returned (.tuple #[.agg #[.int .i64 l, .slice A n c], .bool b]) ∧ w'.ownsRow w.heap.size 156 2 (.slice A n c) n (cellsRule rs) ∧ Below w.heap.size w w'

theorem cellsRule_snoc (rs : List RuleT) (r : RuleT) : cellsRule (rs ++ [r]) = cellsRule rs ++ [.string r.1, .string r.2] := by simp [cellsRule, encRule]
theorem one_cell_rule (a b : ByteArray) : ∀ u ∈ (#[Value.string a, Value.string b] : Array Value).toList, u.oneCell' = true := by
  intro u hu
  simp at hu
  rcases hu with rfl | rfl <;> rfl

end Go.Proofs.Ytidmbeeadbedaaa

/- Walks over SortingSystem: the program's and the reference's hand back the same rules. -/
namespace Go.Proofs.Ytidmbeeadbedaaa
open Go.RowKit Go.Shelf

def sortR (y x : Nat) : RuleT := (letter y ++ letter x, letter x ++ letter y)
/-- The rules of the rows before y. -/
def sortAcc (y : Nat) : List RuleT := (List.range y).flatMap (fun q => (List.range q).map (sortR q))
/-- The rules of the rows before y, and the first x of row y. -/
def sortTo (y x : Nat) : List RuleT := sortAcc y ++ (List.range x).map (sortR y)
/-- The rules of the sorting system. -/
def sorts (k : Int) : List RuleT := if inB k 1 4 then sortAcc k.toNat else []
def sortL (k : Int) : Int := if inB k 1 4 then k else 0
theorem sortTo_zero (y : Nat) : sortTo y 0 = sortAcc y := by simp [sortTo]
theorem sortTo_succ (y x : Nat) : sortTo y (x + 1) = sortTo y x ++ [sortR y x] := by rw [sortTo, sortTo, List.range_succ, List.map_append, List.append_assoc]; rfl
theorem sortAcc_succ (y : Nat) : sortAcc (y + 1) = sortTo y y := by rw [sortAcc, List.range_succ, List.flatMap_append, sortTo]; simp [sortAcc]
theorem sortTo_len (y x : Nat) : (sortTo y x).length = (sortAcc y).length + x := by simp [sortTo]
theorem sortAcc_le (y : Nat) (h : y ≤ 4) : (sortAcc y).length ≤ 6 := by
  have : y = 0 ∨ y = 1 ∨ y = 2 ∨ y = 3 ∨ y = 4 := by omega
  rcases this with rfl | rfl | rfl | rfl | rfl <;> simp [sortAcc, List.range_succ]
set_option maxRecDepth 100000 in
set_option maxHeartbeats 4000000 in
theorem specSortingSystem_any (k : Int) (w : World) : Calls Try.prog 64 #[.int .i64 k] w (MadeSys w (sortL k) (sorts k).length (sorts k) (inB k 1 4)) := by
  go_enter Try.func64, Try.ntmps64
  go_wp2_with fail
  refine (l01In_any k 1 4 _).mono ?_
  rintro e w1 ⟨rfl, rfl⟩
  obtain ⟨r, hrr⟩ : ∃ r', r' = (inB k 1 4) := ⟨_, rfl⟩
  rw [← hrr]
  have HR := Lib.hid hrr
  clear hrr
  cases r
  · go_wp2_with fail
    have e1 : sortL k = 0 := by rw [sortL, ← HR.out]; rfl
    have e2 : sorts k = [] := by rw [sorts, ← HR.out]; rfl
    refine bodyPost_ret (v := .tuple #[.agg #[.int .i64 0, .slice none 0 0], .bool false]) (by simp [results, Try.results64, go_sem]) rfl ?_
    rw [e1, e2]
    refine ⟨none, 0, by rw [← HR.out]; rfl, World.ownsRow_nil _ _ _ _, ?_⟩
    exact (Below.refl _ _).alloc (Nat.le_refl _) _
  · obtain ⟨hk1, hk2⟩ := inB_out HR.out
    obtain ⟨K, rfl⟩ := Int.eq_ofNat_of_zero_le (show 0 ≤ k by omega)
    go_wp2_with fail
    go_loopw [5] (fun i wr => ∃ (y : Nat) (A : Option Addr) (c m : Nat), 1 ≤ y ∧ y ≤ K ∧ i = .int .i64 y ∧ Hid (m = (sortAcc y).length) ∧ Bk wr w.heap.size 25 #[.int .i64 0, .slice none 0 0] ∧ Bk wr (w.heap.size + 1) 25 #[.int .i64 (K : Int), .slice A m c] ∧ wr.ownsRow (w.heap.size + 2) 156 2 (.slice A m c) m (cellsRule (sortAcc y)) ∧ Below w.heap.size w wr) (fun i _ => K - (intOf i).toNat)
    case atStart => exact ⟨1, none, 0, 0, Nat.le_refl _, by omega, rfl, rfl, (Bk.new w _ _).alloc _, by have := Bk.new (w.alloc (.cells #[.int .i64 0, .slice none 0 0] 25)) 25 #[.int .i64 (K : Int), .slice none 0 0]; simpa using this, World.ownsRow_nil _ _ _ _, ((Below.refl _ _).alloc (Nat.le_refl _) _).alloc (by simp) _⟩
    case round =>
      obtain ⟨y, A, c, m, hy1, hy, rfl, HM, hB0, hB1, hO, hW⟩ := hrel
      by_cases hlt : y < K
      · have hacc := sortAcc_le y (by omega)
        have Hacc := Lib.hid hacc
        clear hacc
        have HB0 := Lib.hid hB0
        clear hB0
        have HB1 := Lib.hid hB1
        clear hB1
        have HO := Lib.hid hO
        clear hO
        have HW := Lib.hid hW
        clear hW
        go_wp2_with fail
        go_loopw [6] (fun i wr => ∃ (x : Nat) (A : Option Addr) (c m : Nat), x ≤ y ∧ i = .int .i64 x ∧ Hid (m = (sortTo y x).length) ∧ Bk wr w.heap.size 25 #[.int .i64 0, .slice none 0 0] ∧ Bk wr (w.heap.size + 1) 25 #[.int .i64 (K : Int), .slice A m c] ∧ wr.ownsRow (w.heap.size + 2) 156 2 (.slice A m c) m (cellsRule (sortTo y x)) ∧ Below w.heap.size w wr) (fun i _ => y - (intOf i).toNat)
        case atStart => exact ⟨0, A, c, m, Nat.zero_le _, rfl, by unfold Hid; rw [sortTo_zero]; exact HM.out, HB0.out, HB1.out, by rw [sortTo_zero]; exact HO.out, HW.out⟩
        case round =>
          clear HB0 HB1 HO HW HM m A c
          obtain ⟨x, A, c, m, hx, rfl, HM, hB0, hB1, hO, hW⟩ := hrel
          by_cases hltx : x < y
          · have hml : m ≤ 10 := by rw [HM.out, sortTo_len]; have := Hacc.out; omega
            have hg : w.heap.size + 2 ≤ wr.heap.size := by have := hB1.lt; omega
            have eS : ∀ W, Below wr.drew.heap.size wr.drew W → W.cell? ⟨w.heap.size + 1, 1, none⟩ = some (.slice A m c) := fun W hb => (hb.cell (p := ⟨w.heap.size + 1, 1, none⟩) (by simp; omega)).trans (by rw [hB1.drew.cell]; rfl)
            have eO : ∀ W, Below wr.drew.heap.size wr.drew W → W.ownsRow (w.heap.size + 2) 156 2 (.slice A m c) m (cellsRule (sortTo y x)) := fun W hb => own_keep (w := wr.drew) hO hb (Nat.le_refl _)
            have c0 : wr.cell? ⟨w.heap.size + 1, 1, none⟩ = some (.slice A m c) := by rw [hB1.cell]; rfl
            have hV : Below wr.drew.heap.size wr.drew wr.drew := Below.refl _ _
            have hU : True := trivial
            have ES := Lib.hid eS
            clear eS
            have EO := Lib.hid eO
            clear eO
            have HB0 := Lib.hid hB0
            clear hB0
            have HB1 := Lib.hid hB1
            clear hB1
            have HO := Lib.hid hO
            clear hO
            have hcat1 : ∀ W : World, (Op.stringOp .add (letter (y : Int)) (letter (x : Int))).run Try.prog W = .ok (.string (letter (y : Int) ++ letter (x : Int))) W := fun W => run_string_add_sum W _ _ (by simp only [letter_size]; omega)
            have hcat2 : ∀ W : World, (Op.stringOp .add (letter (x : Int)) (letter (y : Int))).run Try.prog W = .ok (.string (letter (x : Int) ++ letter (y : Int))) W := fun W => run_string_add_sum W _ _ (by simp only [letter_size]; omega)
            go_wp2_with fail
            go_region_law (first | (refine step_app1 _ _ rfl _ _ 23 rfl (w.heap.size + 2) 156 2 32 _ Try.underlying23 info_Rule rfl (by omega) _ _ _ _ rfl rfl rfl (EO.out _ hV) rfl (one_cell_rule _ _) (by omega) (by unfold maxLen; omega) (by have := hV.size; simp at this; omega) ?_; intro A5 c5 w5 hO5 hW5; have hB5 := (HB1.out.drew.below hV (by simp; omega)).below hW5 (by omega); have hS5 := hB5.cell 1; have hF5 := hB5.free 1) | (go_simp; ((with_reducible refine (specLetter_any ((y : Int)) _ (by omega) (by omega)).mono ?_); rintro e u ⟨rfl, hU⟩; have hV := hV.trans (hU.mono hV.size); have hS := ES.out _ hV; have hz : w.heap.size + 1 < u.heap.size := by have := hV.size; simp at this; omega)) | (go_simp; ((with_reducible refine (specLetter_any ((x : Int)) _ (by omega) (by omega)).mono ?_); rintro e u ⟨rfl, hU⟩; have hV := hV.trans (hU.mono hV.size); have hS := ES.out _ hV; have hz : w.heap.size + 1 < u.heap.size := by have := hV.size; simp at this; omega)))
            all_goals
              have hN : Below w.heap.size w (w5.setCell ⟨w.heap.size + 1, 1, none⟩ (.slice A5 (m + 1) c5)) := (((hW.drew).trans (hV.mono hW.size)).trans (hW5.mono (by omega))).setCell (by simp) _
              have hB0n := ((HB0.out.drew.below hV (by simp; omega)).below hW5 (by omega)).far (p := ⟨w.heap.size + 1, 1, none⟩) (by simp) (.slice A5 (m + 1) c5)
              have hB1n := hB5.put 1 (.slice A5 (m + 1) c5)
              have hOn := ownsRow_setCell_below hO5 (a := ⟨w.heap.size + 1, 1, none⟩) (by simp) (.slice A5 (m + 1) c5)
              have hcl : cellsRule (sortTo y x) ++ (#[Value.string (letter (y : Int) ++ letter (x : Int)), Value.string (letter (x : Int) ++ letter (y : Int))] : Array Value).toList = cellsRule (sortTo y (x + 1)) := by
                rw [sortTo_succ, cellsRule_snoc]
                rfl
              rw [hcl] at hOn
              clear hO5 hB5 hcl hS5 hF5 hV hU ES EO HB0 HB1 HO
              go_wp2_with fail
              go_roundw
              case rel => exact ⟨x + 1, A5, c5, m + 1, by omega, by go_num, by unfold Hid; rw [HM.out, sortTo_succ, List.length_append]; rfl, hB0n, hB1n, hOn, hN⟩
              case measure => simp [intOf]; omega
          · have : x = y := by omega
            subst this
            have HB0 := Lib.hid hB0
            clear hB0
            have HB1 := Lib.hid hB1
            clear hB1
            have HO := Lib.hid hO
            clear hO
            have HW := Lib.hid hW
            clear hW
            go_wp2_with fail
            go_roundw
            case rel => exact ⟨x + 1, A, c, m, by omega, by omega, by go_num, by unfold Hid; rw [sortAcc_succ]; exact HM.out, HB0.out, HB1.out, by rw [sortAcc_succ]; exact HO.out, HW.out⟩
            case measure => simp [intOf]; omega
      · have : y = K := by omega
        subst this
        have l0 : wr.cell? ⟨w.heap.size + 1, 0, none⟩ = some (.int .i64 (y : Int)) := by rw [hB1.cell]; rfl
        have l1 : wr.cell? ⟨w.heap.size + 1, 1, none⟩ = some (.slice A m c) := by rw [hB1.cell]; rfl
        have r0 : wr.cell? ⟨w.heap.size, 0, none⟩ = some (.int .i64 0) := by rw [hB0.cell]; rfl
        have r1 : wr.cell? ⟨w.heap.size, 1, none⟩ = some (.slice none 0 0) := by rw [hB0.cell]; rfl
        have f0 := hB0.free 0
        have f1 := hB0.free 1
        have e1 : sortL (y : Int) = y := by rw [sortL, ← HR.out]; rfl
        have e2 : sorts (y : Int) = sortAcc y := by rw [sorts, ← HR.out]; rfl
        have E1 := Lib.hid e1
        clear e1
        have E2 := Lib.hid e2
        clear e2
        go_wp2_with fail
        have hBn := (hB0.put 0 (.int .i64 (y : Int))).put 1 (.slice A m c)
        have q0 := hBn.cell 0
        have q1 := hBn.cell 1
        refine bodyPost_ret (v := .tuple #[.agg #[.int .i64 (y : Int), .slice A m c], .bool true]) (by simp [results, Try.results64, go_sem, q0, q1]) rfl ?_
        rw [E1.out, E2.out, ← HM.out]
        refine ⟨A, c, ?_, ?_, ?_⟩
        · rw [← HR.out]
        · exact own_mono (ownsRow_setCell_below (ownsRow_setCell_below hO (a := ⟨w.heap.size, 0, none⟩) (by simp) _) (a := ⟨w.heap.size, 1, none⟩) (by simp) _) (by omega)
        · exact (hW.setCell (by simp) _).setCell (by simp) _

end Go.Proofs.Ytidmbeeadbedaaa

/- Walk over MakeRules of the reference: rules of two letters that are in order, in memory of their own. -/
namespace Go.Proofs.Ytidmbeeadbedaaa
open Go.RowKit Go.Shelf

theorem sorts2_sys : systemOk 2 (sorts 2) = true := by decide +kernel
end Go.Proofs.Ytidmbeeadbedaaa
